/- JlexBlanks, on the small machine. -/
import Derived.Test.YtlhhibhcoefolaaSJy4
import Derived.Test.YtlhhibhcoefolaaEngLaw
namespace Go.Proofs.Ytlhhibhcoefolaa.Eng
open Go Go.Proofs.Ytlhhibhcoefolaa.Base
set_option maxRecDepth 100000
set_option linter.unusedSimpArgs false
set_option linter.unusedVariables false
theorem split_nil : splitF [] = ([], 0, 0) := by decide +kernel
theorem split_al : splitF [32, 91, 49, 93] = ([(3, 1, 2), (8, 2, 3), (4, 3, 4)], 0, 0) := by decide +kernel
def F_alive6 : List AV → Option (Prop × AV)
  | [] => some (True, vBool true)
  | _ => none
noncomputable def G_al6 : Gam := (Gam.none.add 9 fun a => F_spj (NT.nz.nzL [.s 1] a))
theorem known_G_al6 : Known Try.prog G_al6 := (Known.none _).addC _ spj_calm
theorem G_al6_at : (∀ h d a, G_al6 9 h d a = calmE (fun a => F_spj (NT.nz.nzL [.s 1] a)) h a) := fun _ _ _ => rfl
theorem alive6_body : Body Try.prog G_al6 (DRun Try.prog G_al6) 8 [] (vBool true) := by
  refine Body.of Try.func8 Try.ntmps8 (by kernel_rfl) rfl rfl rfl ?_
  have nz0 : (NT.s 1).nz (.d (.v (.slice none 0 0))) = .d (.sl 1 []) := rfl
  have nz1 : ∀ xs, (NT.s 1).nz (.d (.sl 1 xs)) = .d (.sl 1 xs) := fun xs => rfl
  have pq : plainEq Try.prog 27 = true := by kernel_rfl
  have bs : Bytes [32, 91, 49, 93] := by unfold Bytes; decide
  have bn : Bytes [] := fun x hx => by cases hx
  simp only [pq, nz0, nz1, bs, bn, numOf, iD, Int.ofNat_zero, Int.cast_ofNat_Int, List.map_cons, List.length_cons, List.getD_cons_zero, List.getD_cons_succ, tkR, num_iD, List.map_nil, List.length_nil, split_nil, split_al, splitD, faultD, toksD, G_al6_at, calmE, F_spj, AV.flat, AV.flat.flatL, List.length_map, Int.reduceLE, Int.reduceLT, Int.reduceGT, Int.reduceGE, Int.reduceBEq, Int.reduceBNe, Int.reduceEq, Int.reduceToNat, Int.reduceSub, Int.reduceAdd, Int.reduceMul, Int.reducePow, Int.reduceNeg, goTG_val, goTG_new, goTG_up, goTG_none, goG_none, goG_new, goG_up, ne_eq, evK, evH, retHF, DRun_mk, runT_nil, runT_none, runT_guard, goT_val, goT_new, goT_store, goTH_true, goTH_false, evO, keys, Option.toList_some, Option.toList_none, nzL_nil, nzL_cons, nz_k, nz_sl, nz_nil, nz_agg, startL, evC, evV, goE_val, goE_new, goE_store, goH_true, goH_false, goG_val, lk_cons, lk_nil, lk_func, lk_int, lk_bool, lk_string, lk_slice, lk_agg, look_mk, St.effOf, eff, effCall, effBinC, isConst, effBin, effUn, effConv, effPick, effNil, effFold, fold1, effLoad, effStore, effFieldAddr, effField, fieldOf, sliceOf, effIndexAddr, effIndex, effLen, effExtract, effSlice, dats, bnd, effBuild, placesOf, effBuildSlice, effMakeSlice, effAppend, srcOf, fillA, chunk, seg, toD, toDs, put, eqAV, fieldsEq, leafEq, strip, unw, allB, selP_or, selP_and, tis, TyD.agg, AV.cells, AV.cell, allCell, vInt, vBool, vStr, subL_nil, subL_cons, upIds, AV.ids, AV.ids.idsL, AObj.ids, drops, Hp.get_cons, get_nil, retF, resL, one, fz, fz.fzL, List.map_cons, List.map_nil, List.nil_append, List.append_nil, List.cons_append, List.all_cons, List.all_nil, List.length_cons, List.length_nil, List.getElem?_cons_zero, List.getElem?_cons_succ, List.getD_cons_zero, List.getD_cons_succ, List.take_succ_cons, List.take_zero, List.drop_succ_cons, List.drop_zero, List.take_nil, List.drop_nil, List.contains_cons, List.contains_nil, Option.getD_some, Option.getD_none, Option.map_some, Option.map_none, if_true, if_false, true_and, and_true, and_self, or_self, or_false, false_or, false_and, and_false, reduceCtorEq, sel_and, sel_or, decide_eq_true_eq, Bool.and_eq_true, Bool.or_eq_true, Bool.and_true, Bool.true_and, Bool.or_false, Bool.false_or, Bool.true_or, Bool.or_true, Bool.not_true, Bool.not_false, Bool.false_eq_true, implies_true, not_false_eq_true, Nat.reduceLT, Nat.reduceEqDiff, Nat.reduceAdd, Nat.reduceMul, Nat.reduceMod, Nat.reduceLeDiff, Nat.reduceBEq, Nat.zero_add, Nat.add_zero, reduceIte, ↓reduceIte, List.not_mem_nil]
  exact Sub.refl _
theorem alive6_c : ∀ args sc res, F_alive6 args = some (sc, res) → sc → Calm Try.prog 8 args res := by
  intro args sc res h hs
  unfold F_alive6 at h
  split at h <;> cases h
  exact known_G_al6.calm mixed rfl rfl alive6_body
def intD (x : Int) : List Dat := [.v (.int .i64 x)]
theorem vals_isU {l : List Int} (hb : Bytes l) (h : (vals l.length l).2 = true) : Jlex.isU l := by
  obtain ⟨rs, t, rfl, h1, h2⟩ := Utf.parts l hb
  rw [vals_enc rs t _ h1 h2 (Nat.le_refl _)] at h
  simp only [decide_eq_true_eq] at h
  subst h
  exact ⟨rs, h1, List.append_nil _⟩
theorem isU_vals {l : List Int} (h : Jlex.isU l) : (vals l.length l).2 = true := by
  obtain ⟨rs, h1, rfl⟩ := h
  have := vals_enc rs [] (Utf.encAll rs ++ []).length h1 rfl (Nat.le_refl _)
  rw [List.append_nil] at this
  rw [this]; rfl
theorem split_zero {l : List Int} (hb : Bytes l) (h : (splitF l).2.1 = 0) : ∃ ts, splitF l = (ts, 0, 0) ∧ Jlex.Toks l 0 ts none ∧ Jlex.isU l := by
  by_cases h1 : 20000 < l.length
  · rw [splitF_long h1] at h; cases h
  cases h2 : (vals l.length l).2 with
  | false => rw [splitF_utf h1 h2] at h; cases h
  | true =>
    obtain ⟨ts, e, ht⟩ := Jlex.toks_all l.length l 0 (Nat.le_refl _)
    rcases e with _ | p
    · exact ⟨ts, splitF_ok h1 h2 ht, ht, vals_isU hb h2⟩
    · rw [splitF_bad h1 h2 ht] at h; cases h
theorem bits1023 (x : Int) : ∃ d : Nat, d < 5 ∧ (bits BinOp.and IntKind.i64 x 1023).tmod 5 = d := by
  have h1 : (BitVec.ofInt 64 x).toNat &&& 1023 ≤ 1023 := Nat.and_le_right
  have e : bits BinOp.and IntKind.i64 x 1023 = (((BitVec.ofInt 64 x).toNat &&& 1023 : Nat) : Int) := by
    unfold bits
    simp only [BitVec.toNat_and]
    show IntKind.i64.wrap (((BitVec.ofInt 64 x).toNat &&& 1023 : Nat) : Int) = _
    rw [w64 (by omega) (by omega)]
  refine ⟨((BitVec.ofInt 64 x).toNat &&& 1023) % 5, Nat.mod_lt _ (by decide), ?_⟩
  rw [e, Int.tmod_eq_emod_of_nonneg (by omega)]
  omega
def blanksR : List (List Dat) := [[.v (.string ⟨#[]⟩)], [.v (.string ⟨#[32]⟩)], [.v (.string ⟨#[9]⟩)], [.v (.string ⟨#[10]⟩)], [.v (.string ⟨#[13, 10, 32]⟩)]]
def blanksL : List (List Int) := [[], [32], [9], [10], [13, 10, 32]]
theorem tk_at (ts : List (Int × Int × Int)) (n : Nat) : (ts.map tkR).getD n [.v (.int .i64 0), .v (.int .i64 0), .v (.int .i64 0)] = tkR (ts.getD n (0, 0, 0)) := by
  rw [List.getD_eq_getElem?_getD, List.getD_eq_getElem?_getD, List.getElem?_map]
  cases ts[n]? <;> rfl
theorem tk_cells (x : Int × Int × Int) : (tkR x).length = 3 ∧ (tkR x).getD 0 default = .v (.int .i64 x.1) ∧ (tkR x).getD 1 default = .v (.int .i64 x.2.1) ∧ (tkR x).getD 2 default = .v (.int .i64 x.2.2) := ⟨rfl, rfl, rfl, rfl⟩
theorem blanksL_ok {d : Nat} (h : d < 5) : (∀ x ∈ blanksL.getD d [], Jlex.blk x = true) ∧ (blanksL.getD d []).length ≤ 3 := by
  obtain rfl | rfl | rfl | rfl | rfl : d = 0 ∨ d = 1 ∨ d = 2 ∨ d = 3 ∨ d = 4 := by omega
  all_goals exact ⟨by decide, by decide⟩
theorem blank_bytes {w : List Int} (h : ∀ x ∈ w, Jlex.blk x = true) : Bytes w := fun x hx => by
  have := h x hx
  unfold Jlex.blk at this
  simp only [decide_eq_true_eq] at this
  omega
theorem blanksR_at {d : Nat} (h : d < 5) : (blanksR.getD d []).getD 0 default = .v (.string (strOfNums (blanksL.getD d []))) := by
  obtain rfl | rfl | rfl | rfl | rfl : d = 0 ∨ d = 1 ∨ d = 2 ∨ d = 3 ∨ d = 4 := by omega
  all_goals rfl
def padAt (ts : List (Int × Int × Int)) (ps : List Int) (i : Nat) : List Int :=
  let p := blanksL.getD ((bits BinOp.and IntKind.i64 (ps.getD i 0) 1023).tmod 5).toNat []
  if p = [] ∧ 0 < i ∧ i < ts.length ∧ 7 ≤ (ts.getD (i - 1) (0, 0, 0)).1 ∧ 7 ≤ (ts.getD i (0, 0, 0)).1 then [32] else p
def padsL (ts : List (Int × Int × Int)) (ps : List Int) : List (List Int) := (List.range (ts.length + 1)).map (padAt ts ps)
theorem pads_ok {l : List Int} {ts : List (Int × Int × Int)} (ht : Jlex.Toks l 0 ts none) (hU : Jlex.isU l) (ps : List Int) :
    Jlex.Toks (Jlex.padded l ts (padsL ts ps)) 0 (Jlex.moved ts (padsL ts ps) 0) none ∧ Jlex.isU (Jlex.padded l ts (padsL ts ps)) ∧ (Jlex.padded l ts (padsL ts ps)).length ≤ l.length + 3 * (ts.length + 1) ∧ True := by
  have hone : ∀ i, (∀ x ∈ padAt ts ps i, Jlex.blk x = true) ∧ (padAt ts ps i).length ≤ 3 ∧ (padAt ts ps i = [] → ¬ (0 < i ∧ i < ts.length ∧ 7 ≤ (ts.getD (i - 1) (0, 0, 0)).1 ∧ 7 ≤ (ts.getD i (0, 0, 0)).1)) := fun i => by
    obtain ⟨d, hd, hE⟩ := bits1023 (ps.getD i 0)
    have hb := blanksL_ok hd
    unfold padAt
    simp only [hE, Int.toNat_natCast]
    split
    · exact ⟨by decide, by decide, fun h => by cases h⟩
    · rename_i hq
      exact ⟨hb.1, hb.2, fun h h2 => hq ⟨h, h2⟩⟩
  have hmem : ∀ p ∈ padsL ts ps, ∃ i, p = padAt ts ps i := fun p hp => by
    unfold padsL at hp
    obtain ⟨i, -, rfl⟩ := List.mem_map.1 hp
    exact ⟨i, rfl⟩
  have hg : Jlex.goodP ts (padsL ts ps) := Jlex.goodP_of ts (padsL ts ps) (by unfold padsL; rw [List.length_map, List.length_range]) (fun p hp x hx => by
    obtain ⟨i, rfl⟩ := hmem p hp
    exact (hone i).1 x hx) (fun i x y h1 h2 h3 => by
    have hlt := (List.getElem?_eq_some_iff.1 h2).1
    have e : padAt ts ps (i + 1) = [] := by
      unfold padsL at h3
      rw [List.getElem?_map, List.getElem?_range (by omega)] at h3
      exact Option.some.inj h3
    have := (hone (i + 1)).2.2 e
    rw [show i + 1 - 1 = i by omega, List.getD_eq_getElem?_getD, List.getD_eq_getElem?_getD, h1, h2] at this
    have h7 : ¬ (0 < i + 1 ∧ i + 1 < ts.length ∧ 7 ≤ x.1 ∧ 7 ≤ y.1) := this
    omega)
  exact ⟨(Jlex.toks_pad l ht rfl [] rfl rfl (padsL ts ps) 0 hg).1, Jlex.pad_isU l ht rfl [] rfl rfl hU (padsL ts ps) hg, Jlex.pad_len l ht [] rfl rfl (padsL ts ps) (fun p hp => by
    obtain ⟨i, rfl⟩ := hmem p hp
    exact (hone i).2.1), trivial⟩
noncomputable def G_bl6 : Gam := (((Gam.none.add 8 fun a => F_alive6 (NT.nz.nzL [] a)).add 10 fun a => F_spj (NT.nz.nzL [.s 1] a)).add 9 fun a => F_spj (NT.nz.nzL [.s 1] a))
theorem known_G_bl6 : Known Try.prog G_bl6 := (((Known.none _).addC _ alive6_c).addC _ rjx_calm).addC _ spj_calm
theorem G_bl6_at : (∀ h d a, G_bl6 8 h d a = calmE (fun a => F_alive6 (NT.nz.nzL [] a)) h a) ∧ (∀ h d a, G_bl6 10 h d a = calmE (fun a => F_spj (NT.nz.nzL [.s 1] a)) h a) ∧ (∀ h d a, G_bl6 9 h d a = calmE (fun a => F_spj (NT.nz.nzL [.s 1] a)) h a) := ⟨fun _ _ _ => rfl, fun _ _ _ => rfl, fun _ _ _ => rfl⟩
set_option maxHeartbeats 1000000 in
theorem blanks6_body (l ps : List Int) (hb : Bytes l) : Body Try.prog G_bl6 (DRun Try.prog G_bl6) 5 [.d (bytesD l), .d (intsD ps)] (vBool true) := by
  refine Body.of Try.func5 Try.ntmps5 (by kernel_rfl) rfl rfl rfl ?_
  have nz1 : ∀ xs, (NT.s 1).nz (.d (.sl 1 xs)) = .d (.sl 1 xs) := fun xs => rfl
  have pq : plainEq Try.prog 27 = true := by kernel_rfl
  simp only [bytesD, intsD, num_iD, splitD, toksD, faultD, pq, nz1, Int.ofNat_zero, Int.cast_ofNat_Int, G_bl6_at, calmE, F_alive6, F_spj, AV.flat, AV.flat.flatL, List.length_map, Int.reduceLE, Int.reduceLT, Int.reduceGT, Int.reduceGE, Int.reduceBEq, Int.reduceBNe, Int.reduceEq, Int.reduceToNat, Int.reduceSub, Int.reduceAdd, Int.reduceMul, Int.reducePow, Int.reduceNeg, goTG_val, goTG_new, goTG_up, goTG_none, goG_none, goG_new, goG_up, ne_eq, evK, evH, retHF, DRun_mk, runT_nil, runT_none, runT_guard, goT_val, goT_new, goT_store, goTH_true, goTH_false, evO, keys, Option.toList_some, Option.toList_none, nzL_nil, nzL_cons, nz_k, nz_sl, nz_nil, nz_agg, startL, evC, evV, goE_val, goE_new, goE_store, goH_true, goH_false, goG_val, lk_cons, lk_nil, lk_func, lk_int, lk_bool, lk_string, lk_slice, lk_agg, look_mk, St.effOf, eff, effCall, effBinC, isConst, effBin, effUn, effConv, effPick, effNil, effFold, fold1, effLoad, effStore, effFieldAddr, effField, fieldOf, sliceOf, effIndexAddr, effIndex, effLen, effExtract, effSlice, dats, bnd, effBuild, placesOf, effBuildSlice, effMakeSlice, effAppend, srcOf, fillA, chunk, seg, toD, toDs, put, eqAV, fieldsEq, leafEq, strip, unw, allB, selP_or, selP_and, tis, TyD.agg, AV.cells, AV.cell, allCell, vInt, vBool, vStr, subL_nil, subL_cons, upIds, AV.ids, AV.ids.idsL, AObj.ids, drops, Hp.get_cons, get_nil, retF, resL, one, fz, fz.fzL, List.map_cons, List.map_nil, List.nil_append, List.append_nil, List.cons_append, List.all_cons, List.all_nil, List.length_cons, List.length_nil, List.getElem?_cons_zero, List.getElem?_cons_succ, List.getD_cons_zero, List.getD_cons_succ, List.take_succ_cons, List.take_zero, List.drop_succ_cons, List.drop_zero, List.take_nil, List.drop_nil, List.contains_cons, List.contains_nil, Option.getD_some, Option.getD_none, Option.map_some, Option.map_none, if_true, if_false, true_and, and_true, and_self, or_self, or_false, false_or, false_and, and_false, reduceCtorEq, sel_and, sel_or, decide_eq_true_eq, Bool.and_eq_true, Bool.or_eq_true, Bool.and_true, Bool.true_and, Bool.or_false, Bool.false_or, Bool.true_or, Bool.or_true, Bool.not_true, Bool.not_false, Bool.false_eq_true, implies_true, not_false_eq_true, Nat.reduceLT, Nat.reduceEqDiff, Nat.reduceAdd, Nat.reduceMul, Nat.reduceMod, Nat.reduceLeDiff, Nat.reduceBEq, Nat.zero_add, Nat.add_zero, reduceIte, ↓reduceIte, List.not_mem_nil]
  refine ⟨hb, ?_⟩
  by_cases hq : ((l.length : Int) > 300 ∨ ((splitF l).2.1 != 0) = true) ∨ (ps.length : Int) < IntKind.i64.wrap (((splitF l).1.length : Int) + 1)
  · rw [if_pos hq]
  rw [if_neg hq]
  obtain ⟨ts, hs, ht, hU⟩ := split_zero hb (by
    by_cases h0 : (splitF l).2.1 = 0
    · exact h0
    · exact absurd (.inl (.inr (by rw [bne_iff_ne]; exact h0))) hq)
  have hn := Jlex.toks_num ht
  have h300 : l.length ≤ 300 := by omega
  simp only [hs] at hq ⊢
  rw [w64 (by omega) (by omega)] at hq
  have hpl : ts.length + 1 ≤ ps.length := by omega
  refine wpc_loop (fun p : List Int × Nat => if p.2 ≤ ts.length then ⟨200, [100, 101], [(0, .d (bytesD l)), (1, .d (intsD ps)), (6, .d (toksD ts)), (8, .row 101 5), (9, .row 100 p.1.length), (10, vInt .i64 p.2)], [(100, some (.row 5 1 (p.1.map (iD .u8)))), (101, some (.row 9 1 blanksR))]⟩ else ⟨200, [101], [(0, .d (bytesD l)), (1, .d (intsD ps)), (6, .d (toksD ts)), (8, .row 101 5), (9, .d (bytesD p.1)), (10, vInt .i64 p.2)], [(101, some (.row 9 1 blanksR))]⟩)
    (fun p => p.2 ≤ ts.length + 1 ∧ p.1.length ≤ 303 * p.2 ∧ p.1 ++ Jlex.padded l (ts.drop p.2) ((padsL ts ps).drop p.2) = Jlex.padded l ts (padsL ts ps)) (fun p => ts.length + 1 - p.2) ([], 0) ⟨Nat.zero_le _, Nat.zero_le _, rfl⟩ ?_ ?_
  · simp only [Nat.zero_le, if_true]
    refine Le.of (fun o => 42) [100] ?_
    simp only [bytesD, intsD, toksD, blanksR, List.length_nil, List.map_nil, Mt_tup, Mt_agg, Mt_fn, forall_eq, forall_eq_or_imp, ne_eq, List.all_cons, List.all_nil, pr, Nat.reduceLeDiff, slR_nil, slR_cons, hpR_nil, hpR_cells, hpR_row, idsR_nil, idsR_cons, mtE_v, mtE_sl, mtE_nil, mtE_refl, mtE_row, mtE_born, mtE_ptr, mtE_rp, mtE_agg, mtE_tup, mtE_fn, mtE_ep, MtL_nil, MtL_cons, Mt_v, Mt_sl, Mt_nil, Mt_refl, Mt_row, Mt_born, Mt_ptr, MtO_cells, MtO_row, liveIds, distinct, Dat.v.injEq, Dat.sl.injEq, Value.int.injEq, Value.bool.injEq, Value.string.injEq, lk_cons, lk_nil, subL_nil, subL_cons, upIds, AV.ids, AV.ids.idsL, AObj.ids, Hp.get_cons, get_nil, allCell, AV.cell, vInt, vBool, vStr, id, true_and, and_true, and_self, List.append_nil, List.nil_append, List.not_mem_nil, List.mem_cons, or_false, false_or, or_self, not_true_eq_false, not_false_eq_true, false_imp_iff, false_implies, List.map_nil, not_false_eq_true, List.contains_cons, List.contains_nil, Bool.or_false, Bool.false_or, Bool.true_or, Bool.or_true, Bool.and_true, Bool.true_and, implies_true, if_true, if_false, reduceCtorEq, Nat.reduceEqDiff, Nat.reduceBEq, Nat.reduceAdd, reduceIte, ↓reduceIte]
    exact ⟨rfl, rfl⟩
  · rintro ⟨c, i⟩ ⟨hi, hcl, hc⟩
    simp only [] at hi hcl hc
    obtain ⟨d, hd, hE⟩ := bits1023 (ps.getD i 0)
    have hbl := blanksR_at hd
    have hbs : blanksR.length = 5 := rfl
    obtain ⟨hbk, hb3⟩ := blanksL_ok hd
    have hwb := sB_str (blank_bytes hbk)
    have hS0 : sB ⟨#[]⟩ = [] := rfl
    have hp : padAt ts ps i = if blanksL.getD d [] = [] ∧ 0 < i ∧ i < ts.length ∧ 7 ≤ (ts.getD (i - 1) (0, 0, 0)).1 ∧ 7 ≤ (ts.getD i (0, 0, 0)).1 then [32] else blanksL.getD d [] := by
      unfold padAt; simp only [hE, Int.toNat_natCast]
    generalize blanksL.getD d [] = w at hbl hbk hb3 hwb hp
    by_cases hil : i ≤ ts.length
    · rw [if_pos hil]
      simp only [hE, hbl, hbs, sB_rows, hwb, hS0, tk_at, tk_cells, eq_sB, str_size, bytesD, intsD, toksD, num_iD, splitD, faultD, pq, nz1, Int.ofNat_zero, Int.cast_ofNat_Int, getD_iD, iD, Int.toNat_natCast, G_bl6_at, calmE, F_alive6, F_spj, AV.flat, AV.flat.flatL, List.length_map, Int.reduceLE, Int.reduceLT, Int.reduceGT, Int.reduceGE, Int.reduceBEq, Int.reduceBNe, Int.reduceEq, Int.reduceToNat, Int.reduceSub, Int.reduceAdd, Int.reduceMul, Int.reducePow, Int.reduceNeg, goTG_val, goTG_new, goTG_up, goTG_none, goG_none, goG_new, goG_up, ne_eq, evK, evH, retHF, DRun_mk, runT_nil, runT_none, runT_guard, goT_val, goT_new, goT_store, goTH_true, goTH_false, evO, keys, Option.toList_some, Option.toList_none, nzL_nil, nzL_cons, nz_k, nz_sl, nz_nil, nz_agg, startL, evC, evV, goE_val, goE_new, goE_store, goH_true, goH_false, goG_val, lk_cons, lk_nil, lk_func, lk_int, lk_bool, lk_string, lk_slice, lk_agg, look_mk, St.effOf, eff, effCall, effBinC, isConst, effBin, effUn, effConv, effPick, effNil, effFold, fold1, effLoad, effStore, effFieldAddr, effField, fieldOf, sliceOf, effIndexAddr, effIndex, effLen, effExtract, effSlice, dats, bnd, effBuild, placesOf, effBuildSlice, effMakeSlice, effAppend, srcOf, fillA, chunk, seg, toD, toDs, put, eqAV, fieldsEq, leafEq, strip, unw, allB, selP_or, selP_and, tis, TyD.agg, AV.cells, AV.cell, allCell, vInt, vBool, vStr, subL_nil, subL_cons, upIds, AV.ids, AV.ids.idsL, AObj.ids, drops, Hp.get_cons, get_nil, retF, resL, one, fz, fz.fzL, List.map_cons, List.map_nil, List.nil_append, List.append_nil, List.cons_append, List.all_cons, List.all_nil, List.length_cons, List.length_nil, List.getElem?_cons_zero, List.getElem?_cons_succ, List.getD_cons_zero, List.getD_cons_succ, List.take_succ_cons, List.take_zero, List.drop_succ_cons, List.drop_zero, List.take_nil, List.drop_nil, List.contains_cons, List.contains_nil, Option.getD_some, Option.getD_none, Option.map_some, Option.map_none, if_true, if_false, true_and, and_true, and_self, or_self, or_false, false_or, false_and, and_false, reduceCtorEq, sel_and, sel_or, decide_eq_true_eq, Bool.and_eq_true, Bool.or_eq_true, Bool.and_true, Bool.true_and, Bool.or_false, Bool.false_or, Bool.true_or, Bool.or_true, Bool.not_true, Bool.not_false, Bool.false_eq_true, implies_true, not_false_eq_true, Nat.reduceLT, Nat.reduceEqDiff, Nat.reduceAdd, Nat.reduceMul, Nat.reduceMod, Nat.reduceLeDiff, Nat.reduceBEq, Nat.zero_add, Nat.add_zero, reduceIte, ↓reduceIte, List.not_mem_nil]
      rw [if_pos (by omega)]
      have wm1 : 0 < i → IntKind.i64.wrap ((i : Int) - 1) = ((i - 1 : Nat) : Int) := fun h => by rw [w64 (by omega) (by omega)]; omega
      have wn1 : IntKind.i64.wrap ((i : Int) + 1) = ((i + 1 : Nat) : Int) := by rw [w64 (by omega) (by omega)]; omega
      have hpl2 : (padsL ts ps).length = ts.length + 1 := by unfold padsL; rw [List.length_map, List.length_range]
      have hpd : (padsL ts ps).drop i = padAt ts ps i :: (padsL ts ps).drop (i + 1) := drop_at (by
        unfold padsL; rw [List.getElem?_map, List.getElem?_range (by omega)]; rfl)
      refine ⟨by omega, by omega, hd, fun h => ?_, fun h => by omega, ?_⟩
      · rw [wm1 (by omega)]; omega
      by_cases hsp : (((w = [] ∧ (i : Int) > 0) ∧ (i : Int) < ts.length) ∧ (ts.getD (IntKind.i64.wrap ((i : Int) - 1)).toNat (0, 0, 0)).fst ≥ 7) ∧ (ts.getD i (0, 0, 0)).fst ≥ 7
      · skip
        rw [if_pos hsp]
        rw [if_pos (by obtain ⟨⟨⟨⟨q1, q2⟩, q3⟩, q4⟩, q5⟩ := hsp; rw [wm1 (by omega), Int.toNat_natCast] at q4; exact ⟨q1, by omega, by omega, by omega, by omega⟩)] at hp
        rw [hp] at hpd
        refine ⟨by first | omega | (simp only [List.length_append, List.length_map]; omega), ?_⟩
        by_cases hin : i < ts.length
        · rw [if_pos (by omega)]
          obtain ⟨x, hx⟩ : ∃ x, ts[i]? = some x := ⟨_, List.getElem?_eq_getElem hin⟩
          have hxg : ts.getD i (0, 0, 0) = x := by rw [List.getD_eq_getElem?_getD, hx]; rfl
          have hxr := Jlex.toks_in ht x (List.mem_of_getElem? hx)
          have hsl := Jlex.slice_len (b := l) (x := x) (by omega) hxr.2.1 (by omega)
          have hst : (l.drop x.2.1.toNat).take (x.2.2.toNat - x.2.1.toNat) = Jlex.slice l x := by
            unfold Jlex.slice; congr 1; omega
          simp only [hxg, ← List.map_drop, ← List.map_take, hst, List.length_map, List.length_append, List.length_cons, List.length_nil]
          refine ⟨by omega, by omega, ⟨by omega, by omega, by omega⟩, by omega, by kernel_rfl, (c ++ ([32] ++ Jlex.slice l x), i + 1), by omega, ⟨by omega, by simp only [List.length_append, List.length_cons, List.length_nil]; omega, ?_⟩, ?_⟩
          · simp only []
            rw [← hc, drop_at hx, hpd]
            show _ = c ++ ([32] ++ (Jlex.slice l x ++ Jlex.padded l (ts.drop (i + 1)) ((padsL ts ps).drop (i + 1))))
            simp only [List.append_assoc]
          · simp only [if_pos (show i + 1 ≤ ts.length by omega)]
            refine Le.of (fun o => if o = 100 then 107 else o) [] ?_
            simp only [bytesD, intsD, toksD, wn1, List.map_append, List.map_cons, List.map_nil, List.length_append, List.length_map, List.length_cons, List.length_nil, Mt_tup, Mt_agg, Mt_fn, forall_eq, forall_eq_or_imp, ne_eq, List.all_cons, List.all_nil, pr, Nat.reduceLeDiff, slR_nil, slR_cons, hpR_nil, hpR_cells, hpR_row, idsR_nil, idsR_cons, mtE_v, mtE_sl, mtE_nil, mtE_refl, mtE_row, mtE_born, mtE_ptr, mtE_rp, mtE_agg, mtE_tup, mtE_fn, mtE_ep, MtL_nil, MtL_cons, Mt_v, Mt_sl, Mt_nil, Mt_refl, Mt_row, Mt_born, Mt_ptr, MtO_cells, MtO_row, liveIds, distinct, Dat.v.injEq, Dat.sl.injEq, Value.int.injEq, Value.bool.injEq, Value.string.injEq, lk_cons, lk_nil, subL_nil, subL_cons, upIds, AV.ids, AV.ids.idsL, AObj.ids, Hp.get_cons, get_nil, allCell, AV.cell, vInt, vBool, vStr, id, true_and, and_true, and_self, List.append_nil, List.nil_append, List.not_mem_nil, List.mem_cons, or_false, false_or, or_self, not_true_eq_false, not_false_eq_true, false_imp_iff, false_implies, List.map_nil, not_false_eq_true, List.contains_cons, List.contains_nil, Bool.or_false, Bool.false_or, Bool.true_or, Bool.or_true, Bool.and_true, Bool.true_and, implies_true, if_true, if_false, reduceCtorEq, Nat.reduceEqDiff, Nat.reduceBEq, Nat.reduceAdd, reduceIte, ↓reduceIte]
            refine ⟨by omega, ?_, rfl⟩
            rw [List.append_assoc]; rfl
        · rw [if_neg (by omega)]
          have hin2 : i = ts.length := by omega
          refine ⟨(c ++ [32], i + 1), by omega, ⟨by omega, by simp only [List.length_append, List.length_cons, List.length_nil]; omega, ?_⟩, ?_⟩
          · simp only []
            rw [← hc, hpd, hin2, List.drop_length, List.drop_eq_nil_of_le (by omega), List.drop_eq_nil_of_le (by omega)]
            show (c ++ [32]) ++ [] = c ++ [32]
            rw [List.append_nil]
          · simp only [if_neg (show ¬ (i + 1 ≤ ts.length) by omega)]
            refine Le.ofz [89] (fun o => o) [] ?_
            simp only [drops, frA, List.cons_append, bytesD, intsD, toksD, wn1, List.map_append, List.map_cons, List.map_nil, List.length_append, List.length_map, List.length_cons, List.length_nil, Mt_tup, Mt_agg, Mt_fn, forall_eq, forall_eq_or_imp, ne_eq, List.all_cons, List.all_nil, pr, Nat.reduceLeDiff, slR_nil, slR_cons, hpR_nil, hpR_cells, hpR_row, idsR_nil, idsR_cons, mtE_v, mtE_sl, mtE_nil, mtE_refl, mtE_row, mtE_born, mtE_ptr, mtE_rp, mtE_agg, mtE_tup, mtE_fn, mtE_ep, MtL_nil, MtL_cons, Mt_v, Mt_sl, Mt_nil, Mt_refl, Mt_row, Mt_born, Mt_ptr, MtO_cells, MtO_row, liveIds, distinct, Dat.v.injEq, Dat.sl.injEq, Value.int.injEq, Value.bool.injEq, Value.string.injEq, lk_cons, lk_nil, subL_nil, subL_cons, upIds, AV.ids, AV.ids.idsL, AObj.ids, Hp.get_cons, get_nil, allCell, AV.cell, vInt, vBool, vStr, id, true_and, and_true, and_self, List.append_nil, List.nil_append, List.not_mem_nil, List.mem_cons, or_false, false_or, or_self, not_true_eq_false, not_false_eq_true, false_imp_iff, false_implies, List.map_nil, not_false_eq_true, List.contains_cons, List.contains_nil, Bool.or_false, Bool.false_or, Bool.true_or, Bool.or_true, Bool.and_true, Bool.true_and, implies_true, if_true, if_false, reduceCtorEq, Nat.reduceEqDiff, Nat.reduceBEq, Nat.reduceAdd, reduceIte, ↓reduceIte]
            rfl
      · skip
        rw [if_neg hsp]
        rw [if_neg (fun h => hsp ⟨⟨⟨⟨h.1, by omega⟩, by omega⟩, by rw [wm1 (by omega), Int.toNat_natCast]; omega⟩, by omega⟩)] at hp
        rw [hp] at hpd
        refine ⟨by first | omega | (simp only [List.length_append, List.length_map]; omega), ?_⟩
        by_cases hin : i < ts.length
        · rw [if_pos (by omega)]
          obtain ⟨x, hx⟩ : ∃ x, ts[i]? = some x := ⟨_, List.getElem?_eq_getElem hin⟩
          have hxg : ts.getD i (0, 0, 0) = x := by rw [List.getD_eq_getElem?_getD, hx]; rfl
          have hxr := Jlex.toks_in ht x (List.mem_of_getElem? hx)
          have hsl := Jlex.slice_len (b := l) (x := x) (by omega) hxr.2.1 (by omega)
          have hst : (l.drop x.2.1.toNat).take (x.2.2.toNat - x.2.1.toNat) = Jlex.slice l x := by
            unfold Jlex.slice; congr 1; omega
          simp only [hxg, ← List.map_drop, ← List.map_take, hst, List.length_map, List.length_append, List.length_cons, List.length_nil]
          refine ⟨by omega, by omega, ⟨by omega, by omega, by omega⟩, by omega, by kernel_rfl, (c ++ (w ++ Jlex.slice l x), i + 1), by omega, ⟨by omega, by simp only [List.length_append, List.length_cons, List.length_nil]; omega, ?_⟩, ?_⟩
          · simp only []
            rw [← hc, drop_at hx, hpd]
            show _ = c ++ (w ++ (Jlex.slice l x ++ Jlex.padded l (ts.drop (i + 1)) ((padsL ts ps).drop (i + 1))))
            simp only [List.append_assoc]
          · simp only [if_pos (show i + 1 ≤ ts.length by omega)]
            refine Le.of (fun o => if o = 100 then 107 else o) [] ?_
            simp only [bytesD, intsD, toksD, wn1, List.map_append, List.map_cons, List.map_nil, List.length_append, List.length_map, List.length_cons, List.length_nil, Mt_tup, Mt_agg, Mt_fn, forall_eq, forall_eq_or_imp, ne_eq, List.all_cons, List.all_nil, pr, Nat.reduceLeDiff, slR_nil, slR_cons, hpR_nil, hpR_cells, hpR_row, idsR_nil, idsR_cons, mtE_v, mtE_sl, mtE_nil, mtE_refl, mtE_row, mtE_born, mtE_ptr, mtE_rp, mtE_agg, mtE_tup, mtE_fn, mtE_ep, MtL_nil, MtL_cons, Mt_v, Mt_sl, Mt_nil, Mt_refl, Mt_row, Mt_born, Mt_ptr, MtO_cells, MtO_row, liveIds, distinct, Dat.v.injEq, Dat.sl.injEq, Value.int.injEq, Value.bool.injEq, Value.string.injEq, lk_cons, lk_nil, subL_nil, subL_cons, upIds, AV.ids, AV.ids.idsL, AObj.ids, Hp.get_cons, get_nil, allCell, AV.cell, vInt, vBool, vStr, id, true_and, and_true, and_self, List.append_nil, List.nil_append, List.not_mem_nil, List.mem_cons, or_false, false_or, or_self, not_true_eq_false, not_false_eq_true, false_imp_iff, false_implies, List.map_nil, not_false_eq_true, List.contains_cons, List.contains_nil, Bool.or_false, Bool.false_or, Bool.true_or, Bool.or_true, Bool.and_true, Bool.true_and, implies_true, if_true, if_false, reduceCtorEq, Nat.reduceEqDiff, Nat.reduceBEq, Nat.reduceAdd, reduceIte, ↓reduceIte]
            refine ⟨by omega, ?_, rfl⟩
            rw [List.append_assoc]
        · rw [if_neg (by omega)]
          have hin2 : i = ts.length := by omega
          refine ⟨(c ++ w, i + 1), by omega, ⟨by omega, by simp only [List.length_append, List.length_cons, List.length_nil]; omega, ?_⟩, ?_⟩
          · simp only []
            rw [← hc, hpd, hin2, List.drop_length, List.drop_eq_nil_of_le (by omega), List.drop_eq_nil_of_le (by omega)]
            show (c ++ w) ++ [] = c ++ w
            rw [List.append_nil]
          · simp only [if_neg (show ¬ (i + 1 ≤ ts.length) by omega)]
            refine Le.ofz [89] (fun o => o) [] ?_
            simp only [drops, frA, List.cons_append, bytesD, intsD, toksD, wn1, List.map_append, List.map_cons, List.map_nil, List.length_append, List.length_map, List.length_cons, List.length_nil, Mt_tup, Mt_agg, Mt_fn, forall_eq, forall_eq_or_imp, ne_eq, List.all_cons, List.all_nil, pr, Nat.reduceLeDiff, slR_nil, slR_cons, hpR_nil, hpR_cells, hpR_row, idsR_nil, idsR_cons, mtE_v, mtE_sl, mtE_nil, mtE_refl, mtE_row, mtE_born, mtE_ptr, mtE_rp, mtE_agg, mtE_tup, mtE_fn, mtE_ep, MtL_nil, MtL_cons, Mt_v, Mt_sl, Mt_nil, Mt_refl, Mt_row, Mt_born, Mt_ptr, MtO_cells, MtO_row, liveIds, distinct, Dat.v.injEq, Dat.sl.injEq, Value.int.injEq, Value.bool.injEq, Value.string.injEq, lk_cons, lk_nil, subL_nil, subL_cons, upIds, AV.ids, AV.ids.idsL, AObj.ids, Hp.get_cons, get_nil, allCell, AV.cell, vInt, vBool, vStr, id, true_and, and_true, and_self, List.append_nil, List.nil_append, List.not_mem_nil, List.mem_cons, or_false, false_or, or_self, not_true_eq_false, not_false_eq_true, false_imp_iff, false_implies, List.map_nil, not_false_eq_true, List.contains_cons, List.contains_nil, Bool.or_false, Bool.false_or, Bool.true_or, Bool.or_true, Bool.and_true, Bool.true_and, implies_true, if_true, if_false, reduceCtorEq, Nat.reduceEqDiff, Nat.reduceBEq, Nat.reduceAdd, reduceIte, ↓reduceIte]
    · rw [if_neg hil]
      simp only [hE, hbl, hbs, sB_rows, hwb, hS0, tk_at, tk_cells, eq_sB, str_size, bytesD, intsD, toksD, num_iD, splitD, faultD, pq, nz1, Int.ofNat_zero, Int.cast_ofNat_Int, getD_iD, iD, Int.toNat_natCast, G_bl6_at, calmE, F_alive6, F_spj, AV.flat, AV.flat.flatL, List.length_map, Int.reduceLE, Int.reduceLT, Int.reduceGT, Int.reduceGE, Int.reduceBEq, Int.reduceBNe, Int.reduceEq, Int.reduceToNat, Int.reduceSub, Int.reduceAdd, Int.reduceMul, Int.reducePow, Int.reduceNeg, goTG_val, goTG_new, goTG_up, goTG_none, goG_none, goG_new, goG_up, ne_eq, evK, evH, retHF, DRun_mk, runT_nil, runT_none, runT_guard, goT_val, goT_new, goT_store, goTH_true, goTH_false, evO, keys, Option.toList_some, Option.toList_none, nzL_nil, nzL_cons, nz_k, nz_sl, nz_nil, nz_agg, startL, evC, evV, goE_val, goE_new, goE_store, goH_true, goH_false, goG_val, lk_cons, lk_nil, lk_func, lk_int, lk_bool, lk_string, lk_slice, lk_agg, look_mk, St.effOf, eff, effCall, effBinC, isConst, effBin, effUn, effConv, effPick, effNil, effFold, fold1, effLoad, effStore, effFieldAddr, effField, fieldOf, sliceOf, effIndexAddr, effIndex, effLen, effExtract, effSlice, dats, bnd, effBuild, placesOf, effBuildSlice, effMakeSlice, effAppend, srcOf, fillA, chunk, seg, toD, toDs, put, eqAV, fieldsEq, leafEq, strip, unw, allB, selP_or, selP_and, tis, TyD.agg, AV.cells, AV.cell, allCell, vInt, vBool, vStr, subL_nil, subL_cons, upIds, AV.ids, AV.ids.idsL, AObj.ids, drops, Hp.get_cons, get_nil, retF, resL, one, fz, fz.fzL, List.map_cons, List.map_nil, List.nil_append, List.append_nil, List.cons_append, List.all_cons, List.all_nil, List.length_cons, List.length_nil, List.getElem?_cons_zero, List.getElem?_cons_succ, List.getD_cons_zero, List.getD_cons_succ, List.take_succ_cons, List.take_zero, List.drop_succ_cons, List.drop_zero, List.take_nil, List.drop_nil, List.contains_cons, List.contains_nil, Option.getD_some, Option.getD_none, Option.map_some, Option.map_none, if_true, if_false, true_and, and_true, and_self, or_self, or_false, false_or, false_and, and_false, reduceCtorEq, sel_and, sel_or, decide_eq_true_eq, Bool.and_eq_true, Bool.or_eq_true, Bool.and_true, Bool.true_and, Bool.or_false, Bool.false_or, Bool.true_or, Bool.or_true, Bool.not_true, Bool.not_false, Bool.false_eq_true, implies_true, not_false_eq_true, Nat.reduceLT, Nat.reduceEqDiff, Nat.reduceAdd, Nat.reduceMul, Nat.reduceMod, Nat.reduceLeDiff, Nat.reduceBEq, Nat.zero_add, Nat.add_zero, reduceIte, ↓reduceIte, List.not_mem_nil]
      rw [if_neg (by omega)]
      have hin : i = ts.length + 1 := by omega
      have hpl2 : (padsL ts ps).length = ts.length + 1 := by unfold padsL; rw [List.length_map, List.length_range]
      rw [hin, List.drop_eq_nil_of_le (by omega), List.drop_eq_nil_of_le (by omega)] at hc
      have hc : c ++ [] = Jlex.padded l ts (padsL ts ps) := hc
      rw [List.append_nil] at hc
      obtain ⟨g1, g2, g3, g4⟩ := pads_ok ht hU ps
      rw [← hc] at g1 g2 g3
      have hcb : Bytes c := by obtain ⟨rs, q1, q2⟩ := g2; rw [q2]; exact Utf.encAll_bytes q1
      have hsp := splitF_ok (by omega) (isU_vals g2) g1
      have hml := Jlex.moved_len l ts (padsL ts ps) 0 hpl2
      have hmv : ∀ (j : Nat) (x : Int × Int × Int), ts[j]? = some x → ∃ y, (Jlex.moved ts (padsL ts ps) 0)[j]? = some y ∧ y.1 = x.1 ∧ Jlex.slice c y = Jlex.slice l x ∧ 0 ≤ y.2.1 ∧ y.2.1 ≤ y.2.2 ∧ y.2.2 ≤ c.length := fun j x hx => by
        have := Jlex.moved_at l ts (padsL ts ps) [] j x hpl2 (fun x hx => by have := Jlex.toks_in ht x hx; omega) hx
        rw [List.nil_append, ← hc] at this
        exact this
      simp only [hsp]
      generalize Jlex.moved ts (padsL ts ps) 0 = M at hml hmv
      refine ⟨hcb, ?_⟩
      rw [if_neg (by rw [hml]; simp)]
      refine wpc_loop (fun j : Nat => ⟨200, [], [(0, .d (bytesD l)), (6, .d (toksD ts)), (9, .d (bytesD c)), (12, .d (toksD M)), (14, vInt .i64 j)], []⟩) (fun j => j ≤ ts.length) (fun j => ts.length - j) 0 (Nat.zero_le _) ?_ ?_
      · refine Le.of id [] ?_
        simp only [bytesD, toksD, Mt_tup, Mt_agg, Mt_fn, forall_eq, forall_eq_or_imp, ne_eq, List.all_cons, List.all_nil, pr, Nat.reduceLeDiff, slR_nil, slR_cons, hpR_nil, hpR_cells, hpR_row, idsR_nil, idsR_cons, mtE_v, mtE_sl, mtE_nil, mtE_refl, mtE_row, mtE_born, mtE_ptr, mtE_rp, mtE_agg, mtE_tup, mtE_fn, mtE_ep, MtL_nil, MtL_cons, Mt_v, Mt_sl, Mt_nil, Mt_refl, Mt_row, Mt_born, Mt_ptr, MtO_cells, MtO_row, liveIds, distinct, Dat.v.injEq, Dat.sl.injEq, Value.int.injEq, Value.bool.injEq, Value.string.injEq, lk_cons, lk_nil, subL_nil, subL_cons, upIds, AV.ids, AV.ids.idsL, AObj.ids, Hp.get_cons, get_nil, allCell, AV.cell, vInt, vBool, vStr, id, true_and, and_true, and_self, List.append_nil, List.nil_append, List.not_mem_nil, List.mem_cons, or_false, false_or, or_self, not_true_eq_false, not_false_eq_true, false_imp_iff, false_implies, List.map_nil, not_false_eq_true, List.contains_cons, List.contains_nil, Bool.or_false, Bool.false_or, Bool.true_or, Bool.or_true, Bool.and_true, Bool.true_and, implies_true, if_true, if_false, reduceCtorEq, Nat.reduceEqDiff, Nat.reduceBEq, Nat.reduceAdd, reduceIte, ↓reduceIte]
        rfl
      · intro j hj
        by_cases q : j < ts.length
        · obtain ⟨x, hx⟩ : ∃ x, ts[j]? = some x := ⟨_, List.getElem?_eq_getElem q⟩
          obtain ⟨y, hy, y1, y2, y3, y4, y5⟩ := hmv j x hx
          have hxg : ts.getD j (0, 0, 0) = x := by rw [List.getD_eq_getElem?_getD, hx]; rfl
          have hyg : M.getD j (0, 0, 0) = y := by rw [List.getD_eq_getElem?_getD, hy]; rfl
          have hxr := Jlex.toks_in ht x (List.mem_of_getElem? hx)
          have hsx : (l.drop x.2.1.toNat).take (x.2.2.toNat - x.2.1.toNat) = Jlex.slice l x := by
            unfold Jlex.slice; congr 1; omega
          have hsy : (c.drop y.2.1.toNat).take (y.2.2.toNat - y.2.1.toNat) = Jlex.slice l x := by
            rw [← y2]; unfold Jlex.slice; congr 1; omega
          have p1 : (y.1 != x.1) = false := by rw [y1]; simp
          have p2 : (y.2.2 > (c.length : Int)) = False := eq_false (by omega)
          have p3 : (y.2.1 < 0) = False := eq_false (by omega)
          have p4 : (y.2.1 > y.2.2) = False := eq_false (by omega)
          have f1 : IntKind.i64.wrap ((j : Int) + 1) = ((j + 1 : Nat) : Int) := by rw [w64 (by omega) (by omega)]; omega
          simp only [hxg, hyg, p1, p2, p3, p4, f1, ← List.map_drop, ← List.map_take, hsx, hsy, byteOf_num, decide_false, Bool.or_false, List.append_eq, eq_sB, str_size, tk_at, tk_cells, bytesD, intsD, toksD, num_iD, Int.ofNat_zero, Int.cast_ofNat_Int, getD_iD, iD, Int.toNat_natCast, G_bl6_at, calmE, AV.flat, AV.flat.flatL, List.length_map, Int.reduceLE, Int.reduceLT, Int.reduceGT, Int.reduceGE, Int.reduceBEq, Int.reduceBNe, Int.reduceEq, Int.reduceToNat, Int.reduceSub, Int.reduceAdd, Int.reduceMul, Int.reducePow, Int.reduceNeg, goTG_val, goTG_new, goTG_up, goTG_none, goG_none, goG_new, goG_up, ne_eq, evK, evH, retHF, DRun_mk, runT_nil, runT_none, runT_guard, goT_val, goT_new, goT_store, goTH_true, goTH_false, evO, keys, Option.toList_some, Option.toList_none, nzL_nil, nzL_cons, nz_k, nz_sl, nz_nil, nz_agg, startL, evC, evV, goE_val, goE_new, goE_store, goH_true, goH_false, goG_val, lk_cons, lk_nil, lk_func, lk_int, lk_bool, lk_string, lk_slice, lk_agg, look_mk, St.effOf, eff, effCall, effBinC, isConst, effBin, effUn, effConv, effPick, effNil, effFold, fold1, effLoad, effStore, effFieldAddr, effField, fieldOf, sliceOf, effIndexAddr, effIndex, effLen, effExtract, effSlice, dats, bnd, effBuild, placesOf, effBuildSlice, effMakeSlice, effAppend, srcOf, fillA, chunk, seg, toD, toDs, put, eqAV, fieldsEq, leafEq, strip, unw, allB, selP_or, selP_and, tis, TyD.agg, AV.cells, AV.cell, allCell, vInt, vBool, vStr, subL_nil, subL_cons, upIds, AV.ids, AV.ids.idsL, AObj.ids, drops, Hp.get_cons, get_nil, retF, resL, one, fz, fz.fzL, List.map_cons, List.map_nil, List.nil_append, List.append_nil, List.cons_append, List.all_cons, List.all_nil, List.length_cons, List.length_nil, List.getElem?_cons_zero, List.getElem?_cons_succ, List.getD_cons_zero, List.getD_cons_succ, List.take_succ_cons, List.take_zero, List.drop_succ_cons, List.drop_zero, List.take_nil, List.drop_nil, List.contains_cons, List.contains_nil, Option.getD_some, Option.getD_none, Option.map_some, Option.map_none, if_true, if_false, true_and, and_true, and_self, or_self, or_false, false_or, false_and, and_false, reduceCtorEq, sel_and, sel_or, decide_eq_true_eq, Bool.and_eq_true, Bool.or_eq_true, Bool.and_true, Bool.true_and, Bool.or_false, Bool.false_or, Bool.true_or, Bool.or_true, Bool.not_true, Bool.not_false, Bool.false_eq_true, implies_true, not_false_eq_true, Nat.reduceLT, Nat.reduceEqDiff, Nat.reduceAdd, Nat.reduceMul, Nat.reduceMod, Nat.reduceLeDiff, Nat.reduceBEq, Nat.zero_add, Nat.add_zero, reduceIte, ↓reduceIte, List.not_mem_nil]
          rw [if_pos (by omega)]
          refine ⟨by omega, by omega, fun _ => by omega, fun _ => by omega, fun _ => by omega, fun _ => by omega, fun _ => by omega, fun _ => by omega, fun _ => by omega, fun _ => byteOf_all _, fun _ => by omega, fun _ => by omega, fun _ => by omega, fun _ => byteOf_all _, by kernel_rfl, ?_⟩
          rw [if_neg (by decide)]
          refine ⟨j + 1, by omega, by omega, Le.of id [] ?_⟩
          simp only [bytesD, toksD, Mt_tup, Mt_agg, Mt_fn, forall_eq, forall_eq_or_imp, ne_eq, List.all_cons, List.all_nil, pr, Nat.reduceLeDiff, slR_nil, slR_cons, hpR_nil, hpR_cells, hpR_row, idsR_nil, idsR_cons, mtE_v, mtE_sl, mtE_nil, mtE_refl, mtE_row, mtE_born, mtE_ptr, mtE_rp, mtE_agg, mtE_tup, mtE_fn, mtE_ep, MtL_nil, MtL_cons, Mt_v, Mt_sl, Mt_nil, Mt_refl, Mt_row, Mt_born, Mt_ptr, MtO_cells, MtO_row, liveIds, distinct, Dat.v.injEq, Dat.sl.injEq, Value.int.injEq, Value.bool.injEq, Value.string.injEq, lk_cons, lk_nil, subL_nil, subL_cons, upIds, AV.ids, AV.ids.idsL, AObj.ids, Hp.get_cons, get_nil, allCell, AV.cell, vInt, vBool, vStr, id, true_and, and_true, and_self, List.append_nil, List.nil_append, List.not_mem_nil, List.mem_cons, or_false, false_or, or_self, not_true_eq_false, not_false_eq_true, false_imp_iff, false_implies, List.map_nil, not_false_eq_true, List.contains_cons, List.contains_nil, Bool.or_false, Bool.false_or, Bool.true_or, Bool.or_true, Bool.and_true, Bool.true_and, implies_true, if_true, if_false, reduceCtorEq, Nat.reduceEqDiff, Nat.reduceBEq, Nat.reduceAdd, reduceIte, ↓reduceIte]
        · have hjf : ((j : Int) < (ts.length : Int)) = False := eq_false (by omega)
          simp only [hjf, List.append_eq, eq_sB, str_size, tk_at, tk_cells, bytesD, intsD, toksD, num_iD, Int.ofNat_zero, Int.cast_ofNat_Int, getD_iD, iD, Int.toNat_natCast, G_bl6_at, calmE, AV.flat, AV.flat.flatL, List.length_map, Int.reduceLE, Int.reduceLT, Int.reduceGT, Int.reduceGE, Int.reduceBEq, Int.reduceBNe, Int.reduceEq, Int.reduceToNat, Int.reduceSub, Int.reduceAdd, Int.reduceMul, Int.reducePow, Int.reduceNeg, goTG_val, goTG_new, goTG_up, goTG_none, goG_none, goG_new, goG_up, ne_eq, evK, evH, retHF, DRun_mk, runT_nil, runT_none, runT_guard, goT_val, goT_new, goT_store, goTH_true, goTH_false, evO, keys, Option.toList_some, Option.toList_none, nzL_nil, nzL_cons, nz_k, nz_sl, nz_nil, nz_agg, startL, evC, evV, goE_val, goE_new, goE_store, goH_true, goH_false, goG_val, lk_cons, lk_nil, lk_func, lk_int, lk_bool, lk_string, lk_slice, lk_agg, look_mk, St.effOf, eff, effCall, effBinC, isConst, effBin, effUn, effConv, effPick, effNil, effFold, fold1, effLoad, effStore, effFieldAddr, effField, fieldOf, sliceOf, effIndexAddr, effIndex, effLen, effExtract, effSlice, dats, bnd, effBuild, placesOf, effBuildSlice, effMakeSlice, effAppend, srcOf, fillA, chunk, seg, toD, toDs, put, eqAV, fieldsEq, leafEq, strip, unw, allB, selP_or, selP_and, tis, TyD.agg, AV.cells, AV.cell, allCell, vInt, vBool, vStr, subL_nil, subL_cons, upIds, AV.ids, AV.ids.idsL, AObj.ids, drops, Hp.get_cons, get_nil, retF, resL, one, fz, fz.fzL, List.map_cons, List.map_nil, List.nil_append, List.append_nil, List.cons_append, List.all_cons, List.all_nil, List.length_cons, List.length_nil, List.getElem?_cons_zero, List.getElem?_cons_succ, List.getD_cons_zero, List.getD_cons_succ, List.take_succ_cons, List.take_zero, List.drop_succ_cons, List.drop_zero, List.take_nil, List.drop_nil, List.contains_cons, List.contains_nil, Option.getD_some, Option.getD_none, Option.map_some, Option.map_none, if_true, if_false, true_and, and_true, and_self, or_self, or_false, false_or, false_and, and_false, reduceCtorEq, sel_and, sel_or, decide_eq_true_eq, Bool.and_eq_true, Bool.or_eq_true, Bool.and_true, Bool.true_and, Bool.or_false, Bool.false_or, Bool.true_or, Bool.or_true, Bool.not_true, Bool.not_false, Bool.false_eq_true, implies_true, not_false_eq_true, Nat.reduceLT, Nat.reduceEqDiff, Nat.reduceAdd, Nat.reduceMul, Nat.reduceMod, Nat.reduceLeDiff, Nat.reduceBEq, Nat.zero_add, Nat.add_zero, reduceIte, ↓reduceIte, List.not_mem_nil]
          exact Sub.refl _
theorem JlexBlanks_body (l ps : List Int) (h1 : l.length ≤ maxLen ∧ ∀ x ∈ l, (Lit.int .u8 x).wf = true) (_ : ps.length ≤ maxLen ∧ ∀ x ∈ ps, (Lit.int .i64 x).wf = true) : Body Try.prog G_bl6 (DRun Try.prog G_bl6) 5 [.d (bytesD l), .d (intsD ps)] (vBool true) := blanks6_body l ps (Bytes.of_wf h1.2)
end Go.Proofs.Ytlhhibhcoefolaa.Eng
