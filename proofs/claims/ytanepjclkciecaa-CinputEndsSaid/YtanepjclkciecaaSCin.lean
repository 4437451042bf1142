/- The input of a style sheet, on the small machine. -/
import Derived.Test.YtanepjclkciecaaSUtf
import Derived.Test.YtanepjclkciecaaCinput
namespace Go.Proofs.Ytanepjclkciecaa.Eng
open Go Go.Proofs.Ytanepjclkciecaa.Base Go.Proofs.Ytanepjclkciecaa.Cinput
set_option maxRecDepth 100000
set_option linter.unusedSimpArgs false
/-- Code points with their places, as data. -/
def rD (x : Int × Int) : List Dat := [.v (.int .i64 x.1), .v (.int .i64 x.2)]
def runesD (l : List (Int × Int)) : Dat := .sl 2 (l.map rD)
def runeOf : List Dat → Int × Int
  | [.v (.int .i64 a), .v (.int .i64 b)] => (a, b)
  | _ => (0, 0)
theorem getD_rD (l : List (Int × Int)) (n : Nat) : (l.map rD).getD n [.v (.int .i64 0), .v (.int .i64 0)] = rD (l.getD n (0, 0)) := by
  simp only [List.getD_eq_getElem?_getD, List.getElem?_map]
  cases l[n]? <;> rfl
theorem rD_runeOf (l : List (Int × Int)) : (l.map rD).map runeOf = l := by
  induction l with
  | nil => rfl
  | cons a l ih => simp only [List.map_cons, ih]; rfl
def F_Runes : List AV → Option (Prop × AV)
  | [.d (.sl 1 xs)] => some (xs = (xs.map numOf).map (iD .u8) ∧ Bytes (xs.map numOf) ∧ xs.length ≤ 1000000000, .d (runesD (runes xs.length (xs.map numOf) 0)))
  | _ => none
theorem cin_step {l : List Int} {i k : Nat} {o : List (Int × Int)} {x : Int × Int} {tot : List (Int × Int)} (hb : Bytes l) (hk : 1 ≤ k) (h : ∀ n, l.length - i ≤ n → o ++ runes n (l.drop i) i = tot)
    (e : ∀ n, runes (n + 1) (l.drop i) i = x :: runes n (l.drop (i + k)) ((i + k : Nat) : Int)) : ∀ n, l.length - (i + k) ≤ n → (o ++ [x]) ++ runes n (l.drop (i + k)) ((i + k : Nat) : Int) = tot := fun n hn => by
  have h1 := h (n + k + 1) (by omega)
  rw [e, runes_fuel n (n + k) _ _ (hb.drop _) (by rw [List.length_drop]; omega) (by omega)] at h1
  rw [List.append_assoc, List.singleton_append]
  exact h1
theorem Runes_body (l : List Int) (hb : Bytes l) (hl : l.length ≤ 1000000000) : Body Try.prog G_utf2 (DRun Try.prog G_utf2) 9 [.d (bytesD l)] (.d (runesD (runes l.length l 0))) := by
  refine Body.of Try.func9 Try.ntmps9 (by kernel_rfl) rfl rfl rfl ?_
  simp only [intsD, bytesD, G_utf2, G_utf, Gam.add, calmE, F_lead, F_right, F_size, F_Next, F_Put, AV.flat, AV.flat.flatL, getD_iD, iD, num_iD, List.length_map, DRun_mk, runT_nil, runT_none, runT_guard, goT_val, goT_new, goT_store, goTG_val, goTH_true, goTH_false, evO, keys, Option.toList_some, Option.toList_none, nzL_nil, nzL_cons, nz_k, nz_sl, nz_nil, nz_agg, startL, evC, evV, goE_val, goE_new, goE_store, goH_true, goH_false, goG_val, lk_cons, lk_nil, lk_func, lk_int, lk_bool, lk_string, lk_slice, lk_agg, look_mk, St.effOf, eff, effCall, effBin, effUn, effConv, effPick, effNil, effFold, fold1, effLoad, effStore, effFieldAddr, effField, fieldOf, sliceOf, effIndexAddr, effIndex, effLen, effExtract, effSlice, bnd, effBuild, placesOf, effBuildSlice, effMakeSlice, effAppend, srcOf, fillA, chunk, seg, toD, toDs, put, eqAV, fieldsEq, leafEq, strip, unw, allB, selP_or, selP_and, tis, TyD.agg, AV.cells, AV.cell, allCell, vInt, vBool, vStr, subL_nil, subL_cons, upIds, AV.ids, AV.ids.idsL, AObj.ids, drops, Hp.get_cons, get_nil, retF, resL, one, fz, fz.fzL, List.map_cons, List.map_nil, List.nil_append, List.append_nil, List.cons_append, List.all_cons, List.all_nil, List.length_cons, List.length_nil, List.getElem?_cons_zero, List.getElem?_cons_succ, List.getD_cons_zero, List.getD_cons_succ, List.take_succ_cons, List.take_zero, List.drop_succ_cons, List.drop_zero, List.take_nil, List.drop_nil, List.contains_cons, List.contains_nil, Option.getD_some, Option.getD_none, Option.map_some, Option.map_none, if_true, if_false, true_and, and_true, and_self, or_self, or_false, false_or, false_and, and_false, reduceCtorEq, sel_and, sel_or, decide_eq_true_eq, Bool.and_eq_true, Bool.or_eq_true, Bool.and_true, Bool.true_and, Bool.or_false, Bool.false_or, Bool.true_or, Bool.or_true, Bool.not_true, Bool.not_false, Bool.false_eq_true, implies_true, not_false_eq_true, Nat.reduceLT, Nat.reduceEqDiff, Nat.reduceAdd, Nat.reduceMul, Nat.reduceMod, Nat.reduceLeDiff, Nat.reduceBEq, Nat.zero_add, Nat.add_zero, reduceIte, ↓reduceIte]
  refine wpc_loop (fun p : List (Int × Int) × Nat => ⟨54, [100], [(3, .row 100 p.1.length), (0, .d (bytesD l)), (4, vInt .i64 p.2)], [(100, some (.row 30 2 (p.1.map rD)))]⟩)
    (fun p => p.2 ≤ l.length ∧ p.1.length ≤ p.2 ∧ ∀ n, l.length - p.2 ≤ n → p.1 ++ runes n (l.drop p.2) p.2 = runes l.length l 0) (fun p => l.length - p.2) ([], 0) ⟨Nat.zero_le _, Nat.le_refl _, fun n hn => ?_⟩ ?_ ?_
  · rw [List.nil_append, List.drop_zero]
    exact runes_fuel _ _ _ _ hb (Nat.le_refl _) hn
  · refine Le.of id [100] ?_
    simp only [bytesD, List.length_nil, List.length_map, slR_nil, slR_cons, hpR_nil, hpR_cells, hpR_row, idsR_nil, idsR_cons, mtE_v, mtE_sl, mtE_nil, mtE_refl, mtE_row, mtE_born, mtE_ptr, mtE_rp, mtE_agg, mtE_tup, mtE_fn, mtE_ep, MtL_nil, MtL_cons, Mt_v, Mt_sl, Mt_nil, Mt_refl, Mt_row, Mt_born, Mt_ptr, MtO_cells, MtO_row, liveIds, distinct, Dat.v.injEq, Dat.sl.injEq, Value.int.injEq, Value.bool.injEq, Value.string.injEq, lk_cons, lk_nil, subL_nil, subL_cons, upIds, AV.ids, AV.ids.idsL, AObj.ids, Hp.get_cons, get_nil, allCell, AV.cell, vInt, vBool, vStr, id, true_and, and_true, and_self, List.append_nil, List.nil_append, List.not_mem_nil, List.mem_cons, or_false, false_or, or_self, not_true_eq_false, not_false_eq_true, false_imp_iff, false_implies, List.map_nil, not_false_eq_true, List.contains_cons, List.contains_nil, Bool.or_false, Bool.false_or, Bool.true_or, Bool.or_true, Bool.and_true, Bool.true_and, implies_true, if_true, if_false, reduceCtorEq, Nat.reduceEqDiff, Nat.reduceBEq, Nat.reduceAdd, reduceIte, ↓reduceIte]
    rfl
  · rintro ⟨o, i⟩ ⟨hi, ho, hr⟩
    simp only [intsD, bytesD, G_utf2, G_utf, Gam.add, calmE, F_lead, F_right, F_size, F_Next, F_Put, AV.flat, AV.flat.flatL, getD_iD, iD, num_iD, List.length_map, DRun_mk, runT_nil, runT_none, runT_guard, goT_val, goT_new, goT_store, goTG_val, goTH_true, goTH_false, evO, keys, Option.toList_some, Option.toList_none, nzL_nil, nzL_cons, nz_k, nz_sl, nz_nil, nz_agg, startL, evC, evV, goE_val, goE_new, goE_store, goH_true, goH_false, goG_val, lk_cons, lk_nil, lk_func, lk_int, lk_bool, lk_string, lk_slice, lk_agg, look_mk, St.effOf, eff, effCall, effBin, effUn, effConv, effPick, effNil, effFold, fold1, effLoad, effStore, effFieldAddr, effField, fieldOf, sliceOf, effIndexAddr, effIndex, effLen, effExtract, effSlice, bnd, effBuild, placesOf, effBuildSlice, effMakeSlice, effAppend, srcOf, fillA, chunk, seg, toD, toDs, put, eqAV, fieldsEq, leafEq, strip, unw, allB, selP_or, selP_and, tis, TyD.agg, AV.cells, AV.cell, allCell, vInt, vBool, vStr, subL_nil, subL_cons, upIds, AV.ids, AV.ids.idsL, AObj.ids, drops, Hp.get_cons, get_nil, retF, resL, one, fz, fz.fzL, List.map_cons, List.map_nil, List.nil_append, List.append_nil, List.cons_append, List.all_cons, List.all_nil, List.length_cons, List.length_nil, List.getElem?_cons_zero, List.getElem?_cons_succ, List.getD_cons_zero, List.getD_cons_succ, List.take_succ_cons, List.take_zero, List.drop_succ_cons, List.drop_zero, List.take_nil, List.drop_nil, List.contains_cons, List.contains_nil, Option.getD_some, Option.getD_none, Option.map_some, Option.map_none, if_true, if_false, true_and, and_true, and_self, or_self, or_false, false_or, false_and, and_false, reduceCtorEq, sel_and, sel_or, decide_eq_true_eq, Bool.and_eq_true, Bool.or_eq_true, Bool.and_true, Bool.true_and, Bool.or_false, Bool.false_or, Bool.true_or, Bool.or_true, Bool.not_true, Bool.not_false, Bool.false_eq_true, implies_true, not_false_eq_true, Nat.reduceLT, Nat.reduceEqDiff, Nat.reduceAdd, Nat.reduceMul, Nat.reduceMod, Nat.reduceLeDiff, Nat.reduceBEq, Nat.zero_add, Nat.add_zero, reduceIte, ↓reduceIte]
    simp only [] at hi ho hr
    by_cases h1 : (i : Int) < l.length
    · rw [if_pos h1]
      refine ⟨⟨hb, by omega⟩, ?_⟩
      have hne : l.drop i ≠ [] := by
        intro h
        have := List.drop_eq_nil_iff.mp h
        omega
      have hd := Utf.dec_len (hb.drop i) hne
      rw [List.length_drop] at hd
      have hnx : Utf.nx l i = Utf.dec (l.drop i) := by rw [Utf.nx, if_neg (by omega), Int.toNat_natCast]
      rw [hnx]
      have one := fun h13 n => runes_one (n := n) (i := (i : Int)) hne h13
      have pair := fun h13 n => runes_pair (n := n) (i := (i : Int)) hne h13
      generalize Utf.dec (l.drop i) = q at hd one pair ⊢
      obtain ⟨r, n, ok⟩ := q
      simp only [] at hd one pair ⊢
      obtain ⟨k, rfl⟩ := Int.eq_ofNat_of_zero_le (show 0 ≤ n by omega)
      have ew : IntKind.i64.wrap ((i : Int) + (k : Int)) = ((i + k : Nat) : Int) := by rw [w64 (by omega) (by omega)]; omega
      have hk1 : 1 ≤ k := by omega
      have hk2 : i + k ≤ l.length := by omega
      simp only [ew, Int.toNat_natCast, List.drop_drop] at one pair ⊢
      have solo : ∀ y : Int, ¬ (r = 13 ∧ (l.drop (i + k)).head? = some 10) → cr r = y →
          ∃ b : List (Int × Int) × Nat, l.length - b.2 < l.length - i ∧ (b.2 ≤ l.length ∧ b.1.length ≤ b.2 ∧ ∀ n, l.length - b.2 ≤ n → b.1 ++ runes n (l.drop b.2) b.2 = runes l.length l 0) ∧ b.1 = o ++ [(y, (i : Int))] ∧ b.2 = i + k := fun y h13 hy =>
        ⟨(o ++ [(y, (i : Int))], i + k), by simp only []; omega, ⟨hk2, by simp only [List.length_append, List.length_singleton]; omega, cin_step hb hk1 hr fun n => by rw [one h13, hy]; rfl⟩, rfl, rfl⟩
      by_cases c0 : r = 0
      · subst c0
        rw [if_pos (by decide)]
        refine ⟨by omega, ?_⟩
        obtain ⟨b, q1, q2, q3, q4⟩ := solo 65533 (fun h => by omega) rfl
        refine ⟨b, q1, q2, Le.of (fun _ => 52) [] ?_⟩
        simp only [q3, q4, rD, List.map_append, List.map_cons, List.length_append, List.length_map, List.length_cons, List.length_nil, slR_nil, slR_cons, hpR_nil, hpR_cells, hpR_row, idsR_nil, idsR_cons, mtE_v, mtE_sl, mtE_nil, mtE_refl, mtE_row, mtE_born, mtE_ptr, mtE_rp, mtE_agg, mtE_tup, mtE_fn, mtE_ep, MtL_nil, MtL_cons, Mt_v, Mt_sl, Mt_nil, Mt_refl, Mt_row, Mt_born, Mt_ptr, MtO_cells, MtO_row, liveIds, distinct, Dat.v.injEq, Dat.sl.injEq, Value.int.injEq, Value.bool.injEq, Value.string.injEq, lk_cons, lk_nil, subL_nil, subL_cons, upIds, AV.ids, AV.ids.idsL, AObj.ids, Hp.get_cons, get_nil, allCell, AV.cell, vInt, vBool, vStr, id, true_and, and_true, and_self, List.append_nil, List.nil_append, List.not_mem_nil, List.mem_cons, or_false, false_or, or_self, not_true_eq_false, not_false_eq_true, false_imp_iff, false_implies, List.map_nil, not_false_eq_true, List.contains_cons, List.contains_nil, Bool.or_false, Bool.false_or, Bool.true_or, Bool.or_true, Bool.and_true, Bool.true_and, implies_true, if_true, if_false, reduceCtorEq, Nat.reduceEqDiff, Nat.reduceBEq, Nat.reduceAdd, reduceIte, ↓reduceIte]
      · rw [if_neg (by simpa using c0)]
        by_cases c12 : r = 12
        · subst c12
          rw [if_pos (by decide)]
          refine ⟨by omega, ?_⟩
          obtain ⟨b, q1, q2, q3, q4⟩ := solo 10 (fun h => by omega) rfl
          refine ⟨b, q1, q2, Le.of (fun _ => 52) [] ?_⟩
          simp only [q3, q4, rD, List.map_append, List.map_cons, List.length_append, List.length_map, List.length_cons, List.length_nil, slR_nil, slR_cons, hpR_nil, hpR_cells, hpR_row, idsR_nil, idsR_cons, mtE_v, mtE_sl, mtE_nil, mtE_refl, mtE_row, mtE_born, mtE_ptr, mtE_rp, mtE_agg, mtE_tup, mtE_fn, mtE_ep, MtL_nil, MtL_cons, Mt_v, Mt_sl, Mt_nil, Mt_refl, Mt_row, Mt_born, Mt_ptr, MtO_cells, MtO_row, liveIds, distinct, Dat.v.injEq, Dat.sl.injEq, Value.int.injEq, Value.bool.injEq, Value.string.injEq, lk_cons, lk_nil, subL_nil, subL_cons, upIds, AV.ids, AV.ids.idsL, AObj.ids, Hp.get_cons, get_nil, allCell, AV.cell, vInt, vBool, vStr, id, true_and, and_true, and_self, List.append_nil, List.nil_append, List.not_mem_nil, List.mem_cons, or_false, false_or, or_self, not_true_eq_false, not_false_eq_true, false_imp_iff, false_implies, List.map_nil, not_false_eq_true, List.contains_cons, List.contains_nil, Bool.or_false, Bool.false_or, Bool.true_or, Bool.or_true, Bool.and_true, Bool.true_and, implies_true, if_true, if_false, reduceCtorEq, Nat.reduceEqDiff, Nat.reduceBEq, Nat.reduceAdd, reduceIte, ↓reduceIte]
        · rw [if_neg (by simpa using c12)]
          by_cases c13 : r = 13
          · subst c13
            rw [if_pos (by decide)]
            refine ⟨fun h => ⟨by omega, h⟩, ?_⟩
            by_cases ch : (l.drop (i + k)).head? = some 10
            · rw [List.head?_drop] at ch
              have hlt : i + k < l.length := (List.getElem?_eq_some_iff.mp ch).1
              rw [if_pos ⟨by omega, by rw [List.getD_eq_getElem?_getD, ch]; rfl⟩]
              refine ⟨by omega, (o ++ [(10, (i : Int))], i + (k + 1)), by simp only []; omega, ⟨by simp only []; omega, by simp only [List.length_append, List.length_singleton]; omega, cin_step hb (by omega) hr fun n => ?_⟩, Le.of (fun _ => 52) [] ?_⟩
              · rw [pair ⟨rfl, by rw [List.head?_drop]; exact ch⟩, Nat.add_assoc]
                congr 2
              · simp only [rD, List.map_append, List.map_cons, List.length_append, List.length_map, List.length_cons, List.length_nil, slR_nil, slR_cons, hpR_nil, hpR_cells, hpR_row, idsR_nil, idsR_cons, mtE_v, mtE_sl, mtE_nil, mtE_refl, mtE_row, mtE_born, mtE_ptr, mtE_rp, mtE_agg, mtE_tup, mtE_fn, mtE_ep, MtL_nil, MtL_cons, Mt_v, Mt_sl, Mt_nil, Mt_refl, Mt_row, Mt_born, Mt_ptr, MtO_cells, MtO_row, liveIds, distinct, Dat.v.injEq, Dat.sl.injEq, Value.int.injEq, Value.bool.injEq, Value.string.injEq, lk_cons, lk_nil, subL_nil, subL_cons, upIds, AV.ids, AV.ids.idsL, AObj.ids, Hp.get_cons, get_nil, allCell, AV.cell, vInt, vBool, vStr, id, true_and, and_true, and_self, List.append_nil, List.nil_append, List.not_mem_nil, List.mem_cons, or_false, false_or, or_self, not_true_eq_false, not_false_eq_true, false_imp_iff, false_implies, List.map_nil, not_false_eq_true, List.contains_cons, List.contains_nil, Bool.or_false, Bool.false_or, Bool.true_or, Bool.or_true, Bool.and_true, Bool.true_and, implies_true, if_true, if_false, reduceCtorEq, Nat.reduceEqDiff, Nat.reduceBEq, Nat.reduceAdd, reduceIte, ↓reduceIte]
                rw [w64 (by omega) (by omega)]
                omega
            · have ch' := ch
              rw [List.head?_drop] at ch'
              rw [if_neg (by
                rintro ⟨h2, h3⟩
                apply ch'
                rw [List.getD_eq_getElem?_getD, List.getElem?_eq_getElem (show i + k < l.length by omega)] at h3
                rw [List.getElem?_eq_getElem (show i + k < l.length by omega)]
                simpa using h3)]
              refine ⟨by omega, ?_⟩
              obtain ⟨b, q1, q2, q3, q4⟩ := solo 10 (fun h => ch h.2) rfl
              refine ⟨b, q1, q2, Le.of (fun _ => 52) [] ?_⟩
              simp only [q3, q4, rD, List.map_append, List.map_cons, List.length_append, List.length_map, List.length_cons, List.length_nil, slR_nil, slR_cons, hpR_nil, hpR_cells, hpR_row, idsR_nil, idsR_cons, mtE_v, mtE_sl, mtE_nil, mtE_refl, mtE_row, mtE_born, mtE_ptr, mtE_rp, mtE_agg, mtE_tup, mtE_fn, mtE_ep, MtL_nil, MtL_cons, Mt_v, Mt_sl, Mt_nil, Mt_refl, Mt_row, Mt_born, Mt_ptr, MtO_cells, MtO_row, liveIds, distinct, Dat.v.injEq, Dat.sl.injEq, Value.int.injEq, Value.bool.injEq, Value.string.injEq, lk_cons, lk_nil, subL_nil, subL_cons, upIds, AV.ids, AV.ids.idsL, AObj.ids, Hp.get_cons, get_nil, allCell, AV.cell, vInt, vBool, vStr, id, true_and, and_true, and_self, List.append_nil, List.nil_append, List.not_mem_nil, List.mem_cons, or_false, false_or, or_self, not_true_eq_false, not_false_eq_true, false_imp_iff, false_implies, List.map_nil, not_false_eq_true, List.contains_cons, List.contains_nil, Bool.or_false, Bool.false_or, Bool.true_or, Bool.or_true, Bool.and_true, Bool.true_and, implies_true, if_true, if_false, reduceCtorEq, Nat.reduceEqDiff, Nat.reduceBEq, Nat.reduceAdd, reduceIte, ↓reduceIte]
          · rw [if_neg (by simpa using c13)]
            refine ⟨by omega, ?_⟩
            obtain ⟨b, q1, q2, q3, q4⟩ := solo r (fun h => c13 h.1) (by unfold cr; rw [if_neg c0, if_neg c12, if_neg c13])
            refine ⟨b, q1, q2, Le.of (fun _ => 52) [] ?_⟩
            simp only [q3, q4, rD, List.map_append, List.map_cons, List.length_append, List.length_map, List.length_cons, List.length_nil, slR_nil, slR_cons, hpR_nil, hpR_cells, hpR_row, idsR_nil, idsR_cons, mtE_v, mtE_sl, mtE_nil, mtE_refl, mtE_row, mtE_born, mtE_ptr, mtE_rp, mtE_agg, mtE_tup, mtE_fn, mtE_ep, MtL_nil, MtL_cons, Mt_v, Mt_sl, Mt_nil, Mt_refl, Mt_row, Mt_born, Mt_ptr, MtO_cells, MtO_row, liveIds, distinct, Dat.v.injEq, Dat.sl.injEq, Value.int.injEq, Value.bool.injEq, Value.string.injEq, lk_cons, lk_nil, subL_nil, subL_cons, upIds, AV.ids, AV.ids.idsL, AObj.ids, Hp.get_cons, get_nil, allCell, AV.cell, vInt, vBool, vStr, id, true_and, and_true, and_self, List.append_nil, List.nil_append, List.not_mem_nil, List.mem_cons, or_false, false_or, or_self, not_true_eq_false, not_false_eq_true, false_imp_iff, false_implies, List.map_nil, not_false_eq_true, List.contains_cons, List.contains_nil, Bool.or_false, Bool.false_or, Bool.true_or, Bool.or_true, Bool.and_true, Bool.true_and, implies_true, if_true, if_false, reduceCtorEq, Nat.reduceEqDiff, Nat.reduceBEq, Nat.reduceAdd, reduceIte, ↓reduceIte]
    · rw [if_neg h1]
      have h2 := hr 0 (by omega)
      rw [List.drop_eq_nil_of_le (by omega), runes_nil, List.append_nil] at h2
      rw [h2]; rfl
theorem Runes_calm : ∀ args sc res, F_Runes args = some (sc, res) → sc → Calm Try.prog 9 args res := by
  intro args sc res h hs
  unfold F_Runes at h
  split at h <;> cases h
  rename_i xs
  obtain ⟨h1, h2, h3⟩ := hs
  have hb := Runes_body (xs.map numOf) h2 (by simpa using h3)
  rw [bytesD, ← h1, List.length_map] at hb
  exact known_utf2.calm mixed rfl rfl hb
def F_CText : List AV → Option (Prop × AV)
  | [.d (.sl 2 xs)] => some (xs = (xs.map runeOf).map rD ∧ xs.length ≤ 1000000000, vStr (strOfNums (puts ((xs.map runeOf).map Prod.fst))))
  | _ => none
def G_cin : Gam := G_utf2.add 16 fun a => F_Text (NT.nz.nzL [.s 1] a)
theorem CText_body (l : List (Int × Int)) (hl : l.length ≤ 1000000000) : Body Try.prog G_cin (DRun Try.prog G_cin) 11 [.d (runesD l)] (vStr (strOfNums (puts (l.map Prod.fst)))) := by
  refine Body.of Try.func11 Try.ntmps11 (by kernel_rfl) rfl rfl rfl ?_
  simp only [intsD, bytesD, runesD, G_cin, G_utf2, G_utf, Gam.add, calmE, F_lead, F_right, F_size, F_Next, F_Put, F_Text, AV.flat, AV.flat.flatL, getD_iD, iD, num_iD, List.length_map, DRun_mk, runT_nil, runT_none, runT_guard, goT_val, goT_new, goT_store, goTG_val, goTH_true, goTH_false, evO, keys, Option.toList_some, Option.toList_none, nzL_nil, nzL_cons, nz_k, nz_sl, nz_nil, nz_agg, startL, evC, evV, goE_val, goE_new, goE_store, goH_true, goH_false, goG_val, lk_cons, lk_nil, lk_func, lk_int, lk_bool, lk_string, lk_slice, lk_agg, look_mk, St.effOf, eff, effCall, effBin, effUn, effConv, effPick, effNil, effFold, fold1, effLoad, effStore, effFieldAddr, effField, fieldOf, sliceOf, effIndexAddr, effIndex, effLen, effExtract, effSlice, bnd, effBuild, placesOf, effBuildSlice, effMakeSlice, effAppend, srcOf, fillA, chunk, seg, toD, toDs, put, eqAV, fieldsEq, leafEq, strip, unw, allB, selP_or, selP_and, tis, TyD.agg, AV.cells, AV.cell, allCell, vInt, vBool, vStr, subL_nil, subL_cons, upIds, AV.ids, AV.ids.idsL, AObj.ids, drops, Hp.get_cons, get_nil, retF, resL, one, fz, fz.fzL, List.map_cons, List.map_nil, List.nil_append, List.append_nil, List.cons_append, List.all_cons, List.all_nil, List.length_cons, List.length_nil, List.getElem?_cons_zero, List.getElem?_cons_succ, List.getD_cons_zero, List.getD_cons_succ, List.take_succ_cons, List.take_zero, List.drop_succ_cons, List.drop_zero, List.take_nil, List.drop_nil, List.contains_cons, List.contains_nil, Option.getD_some, Option.getD_none, Option.map_some, Option.map_none, if_true, if_false, true_and, and_true, and_self, or_self, or_false, false_or, false_and, and_false, reduceCtorEq, sel_and, sel_or, decide_eq_true_eq, Bool.and_eq_true, Bool.or_eq_true, Bool.and_true, Bool.true_and, Bool.or_false, Bool.false_or, Bool.true_or, Bool.or_true, Bool.not_true, Bool.not_false, Bool.false_eq_true, implies_true, not_false_eq_true, Nat.reduceLT, Nat.reduceEqDiff, Nat.reduceAdd, Nat.reduceMul, Nat.reduceMod, Nat.reduceLeDiff, Nat.reduceBEq, Nat.zero_add, Nat.add_zero, reduceIte, ↓reduceIte]
  refine wpc_loop (fun j : Nat => ⟨20, [100], [(3, .row 100 j), (6, .d (runesD l)), (7, vInt .i64 l.length), (8, vInt .i64 j)], [(100, some (.row 3 1 (((l.take j).map Prod.fst).map (iD .i64))))]⟩) (fun j => j ≤ l.length) (fun j => l.length - j) 0 (Nat.zero_le _) ?_ ?_
  · refine Le.of id [100] ?_
    simp only [runesD, List.take_zero, List.length_nil, List.length_map, slR_nil, slR_cons, hpR_nil, hpR_cells, hpR_row, idsR_nil, idsR_cons, mtE_v, mtE_sl, mtE_nil, mtE_refl, mtE_row, mtE_born, mtE_ptr, mtE_rp, mtE_agg, mtE_tup, mtE_fn, mtE_ep, MtL_nil, MtL_cons, Mt_v, Mt_sl, Mt_nil, Mt_refl, Mt_row, Mt_born, Mt_ptr, MtO_cells, MtO_row, liveIds, distinct, Dat.v.injEq, Dat.sl.injEq, Value.int.injEq, Value.bool.injEq, Value.string.injEq, lk_cons, lk_nil, subL_nil, subL_cons, upIds, AV.ids, AV.ids.idsL, AObj.ids, Hp.get_cons, get_nil, allCell, AV.cell, vInt, vBool, vStr, id, true_and, and_true, and_self, List.append_nil, List.nil_append, List.not_mem_nil, List.mem_cons, or_false, false_or, or_self, not_true_eq_false, not_false_eq_true, false_imp_iff, false_implies, List.map_nil, not_false_eq_true, List.contains_cons, List.contains_nil, Bool.or_false, Bool.false_or, Bool.true_or, Bool.or_true, Bool.and_true, Bool.true_and, implies_true, if_true, if_false, reduceCtorEq, Nat.reduceEqDiff, Nat.reduceBEq, Nat.reduceAdd, reduceIte, ↓reduceIte]
    rfl
  · intro j hj
    simp only [intsD, bytesD, runesD, G_cin, G_utf2, G_utf, Gam.add, calmE, F_lead, F_right, F_size, F_Next, F_Put, F_Text, AV.flat, AV.flat.flatL, getD_iD, getD_rD, rD, iD, num_iD, List.length_map, DRun_mk, runT_nil, runT_none, runT_guard, goT_val, goT_new, goT_store, goTG_val, goTH_true, goTH_false, evO, keys, Option.toList_some, Option.toList_none, nzL_nil, nzL_cons, nz_k, nz_sl, nz_nil, nz_agg, startL, evC, evV, goE_val, goE_new, goE_store, goH_true, goH_false, goG_val, lk_cons, lk_nil, lk_func, lk_int, lk_bool, lk_string, lk_slice, lk_agg, look_mk, St.effOf, eff, effCall, effBin, effUn, effConv, effPick, effNil, effFold, fold1, effLoad, effStore, effFieldAddr, effField, fieldOf, sliceOf, effIndexAddr, effIndex, effLen, effExtract, effSlice, bnd, effBuild, placesOf, effBuildSlice, effMakeSlice, effAppend, srcOf, fillA, chunk, seg, toD, toDs, put, eqAV, fieldsEq, leafEq, strip, unw, allB, selP_or, selP_and, tis, TyD.agg, AV.cells, AV.cell, allCell, vInt, vBool, vStr, subL_nil, subL_cons, upIds, AV.ids, AV.ids.idsL, AObj.ids, drops, Hp.get_cons, get_nil, retF, resL, one, fz, fz.fzL, List.map_cons, List.map_nil, List.nil_append, List.append_nil, List.cons_append, List.all_cons, List.all_nil, List.length_cons, List.length_nil, List.getElem?_cons_zero, List.getElem?_cons_succ, List.getD_cons_zero, List.getD_cons_succ, List.take_succ_cons, List.take_zero, List.drop_succ_cons, List.drop_zero, List.take_nil, List.drop_nil, List.contains_cons, List.contains_nil, Option.getD_some, Option.getD_none, Option.map_some, Option.map_none, if_true, if_false, true_and, and_true, and_self, or_self, or_false, false_or, false_and, and_false, reduceCtorEq, sel_and, sel_or, decide_eq_true_eq, Bool.and_eq_true, Bool.or_eq_true, Bool.and_true, Bool.true_and, Bool.or_false, Bool.false_or, Bool.true_or, Bool.or_true, Bool.not_true, Bool.not_false, Bool.false_eq_true, implies_true, not_false_eq_true, Nat.reduceLT, Nat.reduceEqDiff, Nat.reduceAdd, Nat.reduceMul, Nat.reduceMod, Nat.reduceLeDiff, Nat.reduceBEq, Nat.zero_add, Nat.add_zero, reduceIte, ↓reduceIte]
    by_cases hj2 : (j : Int) < l.length
    · rw [if_pos hj2]
      obtain ⟨c, hc⟩ : ∃ c, l[j]? = some c := ⟨_, List.getElem?_eq_getElem (by omega)⟩
      have hg : l.getD (j : Int).toNat (0, 0) = c := by rw [Int.toNat_natCast, List.getD_eq_getElem?_getD, hc]; rfl
      rw [hg]
      refine ⟨by omega, by rw [List.length_take]; omega, j + 1, by omega, by omega, Le.of (fun _ => 16) [] ?_⟩
      simp only [List.take_add_one, hc, Option.toList_some, List.map_append, List.length_append, List.length_map, List.length_take, List.map_cons, List.length_cons, List.length_nil, iD, rD, slR_nil, slR_cons, hpR_nil, hpR_cells, hpR_row, idsR_nil, idsR_cons, mtE_v, mtE_sl, mtE_nil, mtE_refl, mtE_row, mtE_born, mtE_ptr, mtE_rp, mtE_agg, mtE_tup, mtE_fn, mtE_ep, MtL_nil, MtL_cons, Mt_v, Mt_sl, Mt_nil, Mt_refl, Mt_row, Mt_born, Mt_ptr, MtO_cells, MtO_row, liveIds, distinct, Dat.v.injEq, Dat.sl.injEq, Value.int.injEq, Value.bool.injEq, Value.string.injEq, lk_cons, lk_nil, subL_nil, subL_cons, upIds, AV.ids, AV.ids.idsL, AObj.ids, Hp.get_cons, get_nil, allCell, AV.cell, vInt, vBool, vStr, id, true_and, and_true, and_self, List.append_nil, List.nil_append, List.not_mem_nil, List.mem_cons, or_false, false_or, or_self, not_true_eq_false, not_false_eq_true, false_imp_iff, false_implies, List.map_nil, not_false_eq_true, List.contains_cons, List.contains_nil, Bool.or_false, Bool.false_or, Bool.true_or, Bool.or_true, Bool.and_true, Bool.true_and, implies_true, if_true, if_false, reduceCtorEq, Nat.reduceEqDiff, Nat.reduceBEq, Nat.reduceAdd, reduceIte, ↓reduceIte]
      refine ⟨by omega, ?_⟩
      rw [w64 (by omega) (by omega)]
      rfl
    · rw [if_neg hj2, List.take_of_length_le (by omega)]
      exact ⟨by omega, Sub.refl _⟩
theorem CText_calm : ∀ args sc res, F_CText args = some (sc, res) → sc → Calm Try.prog 11 args res := by
  intro args sc res h hs
  unfold F_CText at h
  split at h <;> cases h
  rename_i xs
  obtain ⟨h1, h2⟩ := hs
  have hb := CText_body (xs.map runeOf) (by simpa using h2)
  rw [runesD, ← h1] at hb
  exact (known_utf2.addC _ Text_calm).calm mixed rfl rfl hb
/-- What the chapter's functions are known by. -/
def G_cin2 : Gam := (G_cin.add 9 fun a => F_Runes (NT.nz.nzL [.s 1] a)).add 11 fun a => F_CText (NT.nz.nzL [.s 2] a)
theorem known_cin2 : Known Try.prog G_cin2 := ((known_utf2.addC _ Text_calm).addC _ Runes_calm).addC _ CText_calm
theorem pe_rune : plainEq Try.prog 30 = true := by kernel_rfl
theorem alive_body : Body Try.prog G_cin2 (DRun Try.prog G_cin2) 7 [] (vBool true) := by
  refine Body.of Try.func7 Try.ntmps7 (by kernel_rfl) rfl rfl rfl ?_
  simp only [intsD, bytesD, runesD, G_cin2, G_cin, G_utf2, G_utf, Gam.add, calmE, F_lead, F_right, F_size, F_Next, F_Put, F_Text, F_Runes, F_CText, AV.flat, AV.flat.flatL, getD_iD, getD_rD, rD, iD, num_iD, List.length_map, pe_rune, numOf, DRun_mk, runT_nil, runT_none, runT_guard, goT_val, goT_new, goT_store, goTG_val, goTH_true, goTH_false, evO, keys, Option.toList_some, Option.toList_none, nzL_nil, nzL_cons, nz_k, nz_sl, nz_nil, nz_agg, startL, evC, evV, goE_val, goE_new, goE_store, goH_true, goH_false, goG_val, lk_cons, lk_nil, lk_func, lk_int, lk_bool, lk_string, lk_slice, lk_agg, look_mk, St.effOf, eff, effCall, effBin, effUn, effConv, effPick, effNil, effFold, fold1, effLoad, effStore, effFieldAddr, effField, fieldOf, sliceOf, effIndexAddr, effIndex, effLen, effExtract, effSlice, bnd, effBuild, placesOf, effBuildSlice, effMakeSlice, effAppend, srcOf, fillA, chunk, seg, toD, toDs, put, eqAV, fieldsEq, leafEq, strip, unw, allB, selP_or, selP_and, tis, TyD.agg, AV.cells, AV.cell, allCell, vInt, vBool, vStr, subL_nil, subL_cons, upIds, AV.ids, AV.ids.idsL, AObj.ids, drops, Hp.get_cons, get_nil, retF, resL, one, fz, fz.fzL, List.map_cons, List.map_nil, List.nil_append, List.append_nil, List.cons_append, List.all_cons, List.all_nil, List.length_cons, List.length_nil, List.getElem?_cons_zero, List.getElem?_cons_succ, List.getD_cons_zero, List.getD_cons_succ, List.take_succ_cons, List.take_zero, List.drop_succ_cons, List.drop_zero, List.take_nil, List.drop_nil, List.contains_cons, List.contains_nil, Option.getD_some, Option.getD_none, Option.map_some, Option.map_none, if_true, if_false, true_and, and_true, and_self, or_self, or_false, false_or, false_and, and_false, reduceCtorEq, sel_and, sel_or, decide_eq_true_eq, Bool.and_eq_true, Bool.or_eq_true, Bool.and_true, Bool.true_and, Bool.or_false, Bool.false_or, Bool.true_or, Bool.or_true, Bool.not_true, Bool.not_false, Bool.false_eq_true, implies_true, not_false_eq_true, Nat.reduceLT, Nat.reduceEqDiff, Nat.reduceAdd, Nat.reduceMul, Nat.reduceMod, Nat.reduceLeDiff, Nat.reduceBEq, Nat.zero_add, Nat.add_zero, reduceIte, ↓reduceIte]
  have e1 : runes 3 [97, 13, 10] 0 = [(97, 0), (10, 1)] := by decide
  have e0 : runes 0 [] 0 = [] := rfl
  rw [rD_runeOf, e1, e0]
  have e3 : puts (List.map Prod.fst [((97 : Int), (0 : Int)), (10, 1)]) = [97, 10] := by decide
  have e4 : (⟨#[97, 10]⟩ : ByteArray) = strOfNums [97, 10] := rfl
  rw [e3, e4]
  exact ⟨by intro x hx; simp at hx; omega, Bytes.nil, fun _ => by decide, fun _ => by simp, Sub.eq (by simp)⟩
theorem alive_calm : Calm Try.prog 7 [] (vBool true) := known_cin2.calm mixed rfl rfl alive_body
theorem and3 (e : Int) : 0 ≤ bits .and .i64 e 3 ∧ bits .and .i64 e 3 < 4 := by
  have h : bits .and .i64 e 3 = IntKind.i64.wrap (((BitVec.ofInt 64 e).toNat &&& 3 : Nat) : Int) := by simp only [bits, BitVec.toNat_and]; rfl
  have h2 := Nat.and_lt_two_pow (BitVec.ofInt 64 e).toNat (show 3 < 2 ^ 2 by decide)
  rw [h, w64 (by omega) (by omega)]
  omega
/-- The marks that end lines. -/
def mark (e : Int) : List Int := if bits .and .i64 e 3 = 0 then [10] else if bits .and .i64 e 3 = 1 then [13] else if bits .and .i64 e 3 = 2 then [12] else [13, 10]
theorem mark_cases (e : Int) : (bits .and .i64 e 3 = 0 ∧ mark e = [10]) ∨ (bits .and .i64 e 3 = 1 ∧ mark e = [13]) ∨ (bits .and .i64 e 3 = 2 ∧ mark e = [12]) ∨ (bits .and .i64 e 3 = 3 ∧ mark e = [13, 10]) := by
  have := and3 e
  unfold mark
  rcases (show bits .and .i64 e 3 = 0 ∨ bits .and .i64 e 3 = 1 ∨ bits .and .i64 e 3 = 2 ∨ bits .and .i64 e 3 = 3 by omega) with h | h | h | h <;> simp [h]
theorem marks_len (l : List Int) : (l.flatMap fun e => 120 :: mark e).length ≤ 3 * l.length := by
  induction l with
  | nil => exact Nat.le_refl 0
  | cons a l ih =>
    rw [List.flatMap_cons, List.length_append, List.length_cons, List.length_cons]
    rcases mark_cases a with ⟨_, h⟩ | ⟨_, h⟩ | ⟨_, h⟩ | ⟨_, h⟩ <;> (rw [h]; simp only [List.length_cons, List.length_nil]; omega)
/-- The text of so many lines. -/
def lines (l : List Int) : List Int := l.flatMap fun e => 120 :: mark e
theorem lines_cons (e : Int) (l : List Int) : lines (e :: l) = 120 :: (mark e ++ lines l) := rfl
theorem lines_head (l : List Int) : (lines l).head? ≠ some 10 := by cases l <;> simp [lines]
theorem lines_bytes (l : List Int) : Bytes (lines l) := by
  intro x hx
  obtain ⟨e, -, h⟩ := List.mem_flatMap.mp hx
  rcases mark_cases e with ⟨_, hm⟩ | ⟨_, hm⟩ | ⟨_, hm⟩ | ⟨_, hm⟩ <;> (rw [hm] at h; simp at h; omega)
/-- Odd ones are the x, the others a line's end. -/
def xs (k : Nat) : Int := if k % 2 = 0 then 120 else 10
theorem lines_runes (l : List Int) : ∀ (n : Nat) (i : Int), (lines l).length ≤ n → (runes n (lines l) i).length = 2 * l.length ∧ ∀ k x, (runes n (lines l) i)[k]? = some x → x.1 = xs k := by
  induction l with
  | nil => intro n i _; rw [show lines [] = [] from rfl, runes_nil]; exact ⟨rfl, fun k x h => by simp at h⟩
  | cons e l ih =>
    intro n i hn
    rw [lines_cons] at hn ⊢
    simp only [List.length_cons, List.length_append] at hn
    have hne : ∀ (c : Int) (t : List Int), c :: t ≠ [] := fun c t h => by cases h
    have done : ∀ (m : Nat) (a b : Int × Int) (j : Int), (lines l).length ≤ m → a.1 = 120 → b.1 = 10 → (a :: b :: runes m (lines l) j).length = 2 * (e :: l).length ∧ ∀ k x, (a :: b :: runes m (lines l) j)[k]? = some x → x.1 = xs k := fun m a b j hm ha hb => by
      obtain ⟨h1, h2⟩ := ih m j hm
      refine ⟨by simp only [List.length_cons]; omega, fun k x hx => ?_⟩
      match k, hx with
      | 0, hx => cases hx; exact ha
      | 1, hx => cases hx; exact hb
      | k + 2, hx =>
        have := h2 k x (by simpa using hx)
        rw [this]; unfold xs; rw [Nat.add_mod_right]
    have one1 : ∀ (c : Int) (t : List Int) (m : Nat) (j : Int), c < 128 → ¬ (c = 13 ∧ t.head? = some 10) → runes (m + 1) (c :: t) j = (cr c, j) :: runes m t (j + 1) := fun c t m j hc h13 => by
      have hd : Utf.dec (c :: t) = (c, 1, true) := by simp only [Utf.dec]; rw [if_pos hc]
      rw [runes_one (hne c t) (by rw [hd]; exact h13), hd]; rfl
    obtain ⟨m, rfl⟩ : ∃ m, n = m + 2 := ⟨n - 2, by
      have : 1 ≤ (mark e).length := by rcases mark_cases e with ⟨_, h⟩ | ⟨_, h⟩ | ⟨_, h⟩ | ⟨_, h⟩ <;> simp [h]
      omega⟩
    rw [one1 120 _ (m + 1) i (by decide) (fun h => by omega)]
    rcases mark_cases e with ⟨_, hm⟩ | ⟨_, hm⟩ | ⟨_, hm⟩ | ⟨_, hm⟩
    · rw [hm] at hn ⊢
      rw [List.singleton_append, one1 10 _ m _ (by decide) (fun h => by omega)]
      exact done m _ _ _ (by simp only [List.length_cons, List.length_nil] at hn; omega) rfl rfl
    · rw [hm] at hn ⊢
      rw [List.singleton_append, one1 13 _ m _ (by decide) (fun h => lines_head l h.2)]
      exact done m _ _ _ (by simp only [List.length_cons, List.length_nil] at hn; omega) rfl rfl
    · rw [hm] at hn ⊢
      rw [List.singleton_append, one1 12 _ m _ (by decide) (fun h => by omega)]
      exact done m _ _ _ (by simp only [List.length_cons, List.length_nil] at hn; omega) rfl rfl
    · rw [hm] at hn ⊢
      have hd : Utf.dec (13 :: (10 :: lines l)) = (13, 1, true) := by simp only [Utf.dec]; rw [if_pos (by decide)]
      rw [show [13, 10] ++ lines l = 13 :: (10 :: lines l) from rfl, runes_pair (hne _ _) (by rw [hd]; exact ⟨rfl, rfl⟩), hd]
      exact done m _ _ _ (by simp only [List.length_cons, List.length_nil] at hn; omega) rfl rfl
theorem row_str {l : List Int} (h : Bytes l) : (strOfNums l).data.toList.map byteRow = l.map (iD .u8) := by
  simp only [strOfNums, List.map_map]
  refine List.map_congr_left fun c hc => ?_
  have := h c hc
  simp only [Function.comp, byteRow, iD, List.cons.injEq, and_true, Dat.v.injEq, Value.int.injEq, true_and]
  rw [UInt8.toNat_ofNat']
  omega
def G_ends : Gam := G_cin2.add 7 fun a => (match a with | [] => some (True, vBool true) | _ => none)
theorem G_ends_at : (∀ h d a, G_ends 7 h d a = calmE (fun a => (match a with | [] => some (True, vBool true) | _ => none)) h a) ∧ (∀ h d a, G_ends 9 h d a = calmE (fun a => F_Runes (NT.nz.nzL [.s 1] a)) h a) := ⟨fun _ _ _ => rfl, fun _ _ _ => rfl⟩
theorem Ends_body (l : List Int) : Body Try.prog G_ends (DRun Try.prog G_ends) 5 [.d (intsD l)] (vBool true) := by
  refine Body.of Try.func5 Try.ntmps5 (by kernel_rfl) rfl rfl rfl ?_
  simp only [intsD, bytesD, runesD, G_ends_at, calmE, F_Runes, AV.flat, AV.flat.flatL, getD_iD, getD_rD, rD, iD, num_iD, List.length_map, pe_rune, numOf, DRun_mk, runT_nil, runT_none, runT_guard, goT_val, goT_new, goT_store, goTG_val, goTH_true, goTH_false, evO, keys, Option.toList_some, Option.toList_none, nzL_nil, nzL_cons, nz_k, nz_sl, nz_nil, nz_agg, startL, evC, evV, goE_val, goE_new, goE_store, goH_true, goH_false, goG_val, lk_cons, lk_nil, lk_func, lk_int, lk_bool, lk_string, lk_slice, lk_agg, look_mk, St.effOf, eff, effCall, effBin, effUn, effConv, effPick, effNil, effFold, fold1, effLoad, effStore, effFieldAddr, effField, fieldOf, sliceOf, effIndexAddr, effIndex, effLen, effExtract, effSlice, bnd, effBuild, placesOf, effBuildSlice, effMakeSlice, effAppend, srcOf, fillA, chunk, seg, toD, toDs, put, eqAV, fieldsEq, leafEq, strip, unw, allB, selP_or, selP_and, tis, TyD.agg, AV.cells, AV.cell, allCell, vInt, vBool, vStr, subL_nil, subL_cons, upIds, AV.ids, AV.ids.idsL, AObj.ids, drops, Hp.get_cons, get_nil, retF, resL, one, fz, fz.fzL, List.map_cons, List.map_nil, List.nil_append, List.append_nil, List.cons_append, List.all_cons, List.all_nil, List.length_cons, List.length_nil, List.getElem?_cons_zero, List.getElem?_cons_succ, List.getD_cons_zero, List.getD_cons_succ, List.take_succ_cons, List.take_zero, List.drop_succ_cons, List.drop_zero, List.take_nil, List.drop_nil, List.contains_cons, List.contains_nil, Option.getD_some, Option.getD_none, Option.map_some, Option.map_none, if_true, if_false, true_and, and_true, and_self, or_self, or_false, false_or, false_and, and_false, reduceCtorEq, sel_and, sel_or, decide_eq_true_eq, Bool.and_eq_true, Bool.or_eq_true, Bool.and_true, Bool.true_and, Bool.or_false, Bool.false_or, Bool.true_or, Bool.or_true, Bool.not_true, Bool.not_false, Bool.false_eq_true, implies_true, not_false_eq_true, Nat.reduceLT, Nat.reduceEqDiff, Nat.reduceAdd, Nat.reduceMul, Nat.reduceMod, Nat.reduceLeDiff, Nat.reduceBEq, Nat.zero_add, Nat.add_zero, reduceIte, ↓reduceIte]
  by_cases hl : (l.length : Int) > 60
  · rw [if_pos hl]
  · rw [if_neg hl]
    refine wpc_loop (fun j : Nat => ⟨62, [100, 101], [(0, .d (intsD l)), (4, .row 100 4), (5, .row 101 ((l.take j).flatMap fun e => 120 :: mark e).length), (6, vInt .i64 j)],
      [(100, some (.row 9 1 [[.v (.string (strOfNums [10]))], [.v (.string (strOfNums [13]))], [.v (.string (strOfNums [12]))], [.v (.string (strOfNums [13, 10]))]])), (101, some (.row 5 1 (((l.take j).flatMap fun e => 120 :: mark e).map (iD .u8))))]⟩) (fun j => j ≤ l.length) (fun j => l.length - j) 0 (Nat.zero_le _) ?_ ?_
    · refine Le.of (fun o => if o = 100 then 18 else 0) [101] ?_
      simp only [intsD, List.take_zero, List.flatMap_nil, List.length_nil, List.length_map, iD, slR_nil, slR_cons, hpR_nil, hpR_cells, hpR_row, idsR_nil, idsR_cons, mtE_v, mtE_sl, mtE_nil, mtE_refl, mtE_row, mtE_born, mtE_ptr, mtE_rp, mtE_agg, mtE_tup, mtE_fn, mtE_ep, MtL_nil, MtL_cons, Mt_v, Mt_sl, Mt_nil, Mt_refl, Mt_row, Mt_born, Mt_ptr, MtO_cells, MtO_row, liveIds, distinct, Dat.v.injEq, Dat.sl.injEq, Value.int.injEq, Value.bool.injEq, Value.string.injEq, lk_cons, lk_nil, subL_nil, subL_cons, upIds, AV.ids, AV.ids.idsL, AObj.ids, Hp.get_cons, get_nil, allCell, AV.cell, vInt, vBool, vStr, id, true_and, and_true, and_self, List.append_nil, List.nil_append, List.not_mem_nil, List.mem_cons, or_false, false_or, or_self, not_true_eq_false, not_false_eq_true, false_imp_iff, false_implies, List.map_nil, not_false_eq_true, List.contains_cons, List.contains_nil, Bool.or_false, Bool.false_or, Bool.true_or, Bool.or_true, Bool.and_true, Bool.true_and, implies_true, if_true, if_false, reduceCtorEq, Nat.reduceEqDiff, Nat.reduceBEq, Nat.reduceAdd, reduceIte, ↓reduceIte]
      refine ⟨rfl, rfl, fun _ b h1 h2 => absurd h1 h2, rfl⟩
    · intro j hj
      by_cases hj2 : (j : Int) < l.length
      · obtain ⟨c, hc⟩ : ∃ c, l[j]? = some c := ⟨_, List.getElem?_eq_getElem (by omega)⟩
        have hg := getD_at hc
        have hml := marks_len (l.take j)
        rw [List.length_take] at hml
        rcases mark_cases c with ⟨hb, hm⟩ | ⟨hb, hm⟩ | ⟨hb, hm⟩ | ⟨hb, hm⟩
        all_goals
          have hmb : Bytes (mark c) := by rw [hm]; intro x hx; simp at hx; omega
          have hstr := row_str hmb
          have hlen := congrArg List.length hstr
          simp only [List.length_map] at hlen
          rw [hm] at hstr hlen
          simp only [intsD, bytesD, runesD, G_ends_at, calmE, F_Runes, AV.flat, AV.flat.flatL, getD_iD, getD_rD, rD, iD, num_iD, List.length_map, pe_rune, numOf, hg, hb, Int.reduceToNat, DRun_mk, runT_nil, runT_none, runT_guard, goT_val, goT_new, goT_store, goTG_val, goTH_true, goTH_false, evO, keys, Option.toList_some, Option.toList_none, nzL_nil, nzL_cons, nz_k, nz_sl, nz_nil, nz_agg, startL, evC, evV, goE_val, goE_new, goE_store, goH_true, goH_false, goG_val, lk_cons, lk_nil, lk_func, lk_int, lk_bool, lk_string, lk_slice, lk_agg, look_mk, St.effOf, eff, effCall, effBin, effUn, effConv, effPick, effNil, effFold, fold1, effLoad, effStore, effFieldAddr, effField, fieldOf, sliceOf, effIndexAddr, effIndex, effLen, effExtract, effSlice, bnd, effBuild, placesOf, effBuildSlice, effMakeSlice, effAppend, srcOf, fillA, chunk, seg, toD, toDs, put, eqAV, fieldsEq, leafEq, strip, unw, allB, selP_or, selP_and, tis, TyD.agg, AV.cells, AV.cell, allCell, vInt, vBool, vStr, subL_nil, subL_cons, upIds, AV.ids, AV.ids.idsL, AObj.ids, drops, Hp.get_cons, get_nil, retF, resL, one, fz, fz.fzL, List.map_cons, List.map_nil, List.nil_append, List.append_nil, List.cons_append, List.all_cons, List.all_nil, List.length_cons, List.length_nil, List.getElem?_cons_zero, List.getElem?_cons_succ, List.getD_cons_zero, List.getD_cons_succ, List.take_succ_cons, List.take_zero, List.drop_succ_cons, List.drop_zero, List.take_nil, List.drop_nil, List.contains_cons, List.contains_nil, Option.getD_some, Option.getD_none, Option.map_some, Option.map_none, if_true, if_false, true_and, and_true, and_self, or_self, or_false, false_or, false_and, and_false, reduceCtorEq, sel_and, sel_or, decide_eq_true_eq, Bool.and_eq_true, Bool.or_eq_true, Bool.and_true, Bool.true_and, Bool.or_false, Bool.false_or, Bool.true_or, Bool.or_true, Bool.not_true, Bool.not_false, Bool.false_eq_true, implies_true, not_false_eq_true, Nat.reduceLT, Nat.reduceEqDiff, Nat.reduceAdd, Nat.reduceMul, Nat.reduceMod, Nat.reduceLeDiff, Nat.reduceBEq, Nat.zero_add, Nat.add_zero, reduceIte, ↓reduceIte]
          rw [if_pos hj2]
          refine ⟨by omega, by omega, by decide, by rw [hlen]; simp only [List.length_append, List.length_map, List.length_cons, List.length_nil]; omega, by kernel_rfl, j + 1, by omega, by omega, Le.of (fun o => if o = 100 then 100 else 36) [] ?_⟩
          simp only [List.take_add_one, hc, Option.toList_some, List.flatMap_append, List.flatMap_cons, List.flatMap_nil, List.append_nil, List.map_append, List.length_append, List.length_map, List.map_cons, List.length_cons, List.length_nil, List.append_assoc, List.singleton_append, List.cons_append, hm, hstr, hlen, iD, slR_nil, slR_cons, hpR_nil, hpR_cells, hpR_row, idsR_nil, idsR_cons, mtE_v, mtE_sl, mtE_nil, mtE_refl, mtE_row, mtE_born, mtE_ptr, mtE_rp, mtE_agg, mtE_tup, mtE_fn, mtE_ep, MtL_nil, MtL_cons, Mt_v, Mt_sl, Mt_nil, Mt_refl, Mt_row, Mt_born, Mt_ptr, MtO_cells, MtO_row, liveIds, distinct, Dat.v.injEq, Dat.sl.injEq, Value.int.injEq, Value.bool.injEq, Value.string.injEq, lk_cons, lk_nil, subL_nil, subL_cons, upIds, AV.ids, AV.ids.idsL, AObj.ids, Hp.get_cons, get_nil, allCell, AV.cell, vInt, vBool, vStr, id, true_and, and_true, and_self, List.append_nil, List.nil_append, List.not_mem_nil, List.mem_cons, or_false, false_or, or_self, not_true_eq_false, not_false_eq_true, false_imp_iff, false_implies, List.map_nil, not_false_eq_true, List.contains_cons, List.contains_nil, Bool.or_false, Bool.false_or, Bool.true_or, Bool.or_true, Bool.and_true, Bool.true_and, implies_true, if_true, if_false, reduceCtorEq, Nat.reduceEqDiff, Nat.reduceBEq, Nat.reduceAdd, reduceIte, ↓reduceIte]
          exact ⟨w64 (by omega) (by omega), fun _ b h _ _ => by subst h; decide⟩
      · have hml := marks_len (l.take j)
        rw [List.length_take] at hml
        have hB : Bytes ((l.take j).flatMap fun e => 120 :: mark e) := lines_bytes (l.take j)
        obtain ⟨r1, r2⟩ := lines_runes (l.take j) ((l.take j).flatMap fun e => 120 :: mark e).length 0 (Nat.le_refl _)
        rw [List.length_take] at r1
        simp only [lines] at r1 r2
        simp only [intsD, bytesD, runesD, G_ends_at, calmE, F_Runes, AV.flat, AV.flat.flatL, getD_iD, getD_rD, rD, iD, num_iD, List.length_map, pe_rune, numOf, DRun_mk, runT_nil, runT_none, runT_guard, goT_val, goT_new, goT_store, goTG_val, goTH_true, goTH_false, evO, keys, Option.toList_some, Option.toList_none, nzL_nil, nzL_cons, nz_k, nz_sl, nz_nil, nz_agg, startL, evC, evV, goE_val, goE_new, goE_store, goH_true, goH_false, goG_val, lk_cons, lk_nil, lk_func, lk_int, lk_bool, lk_string, lk_slice, lk_agg, look_mk, St.effOf, eff, effCall, effBin, effUn, effConv, effPick, effNil, effFold, fold1, effLoad, effStore, effFieldAddr, effField, fieldOf, sliceOf, effIndexAddr, effIndex, effLen, effExtract, effSlice, bnd, effBuild, placesOf, effBuildSlice, effMakeSlice, effAppend, srcOf, fillA, chunk, seg, toD, toDs, put, eqAV, fieldsEq, leafEq, strip, unw, allB, selP_or, selP_and, tis, TyD.agg, AV.cells, AV.cell, allCell, vInt, vBool, vStr, subL_nil, subL_cons, upIds, AV.ids, AV.ids.idsL, AObj.ids, drops, Hp.get_cons, get_nil, retF, resL, one, fz, fz.fzL, List.map_cons, List.map_nil, List.nil_append, List.append_nil, List.cons_append, List.all_cons, List.all_nil, List.length_cons, List.length_nil, List.getElem?_cons_zero, List.getElem?_cons_succ, List.getD_cons_zero, List.getD_cons_succ, List.take_succ_cons, List.take_zero, List.drop_succ_cons, List.drop_zero, List.take_nil, List.drop_nil, List.contains_cons, List.contains_nil, Option.getD_some, Option.getD_none, Option.map_some, Option.map_none, if_true, if_false, true_and, and_true, and_self, or_self, or_false, false_or, false_and, and_false, reduceCtorEq, sel_and, sel_or, decide_eq_true_eq, Bool.and_eq_true, Bool.or_eq_true, Bool.and_true, Bool.true_and, Bool.or_false, Bool.false_or, Bool.true_or, Bool.or_true, Bool.not_true, Bool.not_false, Bool.false_eq_true, implies_true, not_false_eq_true, Nat.reduceLT, Nat.reduceEqDiff, Nat.reduceAdd, Nat.reduceMul, Nat.reduceMod, Nat.reduceLeDiff, Nat.reduceBEq, Nat.zero_add, Nat.add_zero, reduceIte, ↓reduceIte]
        rw [if_neg hj2]
        generalize runes ((l.take j).flatMap fun e => 120 :: mark e).length ((l.take j).flatMap fun e => 120 :: mark e) 0 = R at r1 r2 ⊢
        refine ⟨⟨hB, by omega⟩, ?_⟩
        rw [w64 (by omega) (by omega), if_neg (by simp; omega)]
        refine wpc_loop (fun k : Nat => ⟨62, [], [(7, .d (runesD R)), (8, vInt .i64 k)], []⟩) (fun k => k ≤ R.length) (fun k => R.length - k) 0 (Nat.zero_le _) ?_ ?_
        · refine Le.of id [] ?_
          simp only [runesD, slR_nil, slR_cons, hpR_nil, hpR_cells, hpR_row, idsR_nil, idsR_cons, mtE_v, mtE_sl, mtE_nil, mtE_refl, mtE_row, mtE_born, mtE_ptr, mtE_rp, mtE_agg, mtE_tup, mtE_fn, mtE_ep, MtL_nil, MtL_cons, Mt_v, Mt_sl, Mt_nil, Mt_refl, Mt_row, Mt_born, Mt_ptr, MtO_cells, MtO_row, liveIds, distinct, Dat.v.injEq, Dat.sl.injEq, Value.int.injEq, Value.bool.injEq, Value.string.injEq, lk_cons, lk_nil, subL_nil, subL_cons, upIds, AV.ids, AV.ids.idsL, AObj.ids, Hp.get_cons, get_nil, allCell, AV.cell, vInt, vBool, vStr, id, true_and, and_true, and_self, List.append_nil, List.nil_append, List.not_mem_nil, List.mem_cons, or_false, false_or, or_self, not_true_eq_false, not_false_eq_true, false_imp_iff, false_implies, List.map_nil, not_false_eq_true, List.contains_cons, List.contains_nil, Bool.or_false, Bool.false_or, Bool.true_or, Bool.or_true, Bool.and_true, Bool.true_and, implies_true, if_true, if_false, reduceCtorEq, Nat.reduceEqDiff, Nat.reduceBEq, Nat.reduceAdd, reduceIte, ↓reduceIte]
          rfl
        · intro k hk
          by_cases hk2 : (k : Int) < R.length
          · obtain ⟨x, hx⟩ : ∃ x, R[k]? = some x := ⟨_, List.getElem?_eq_getElem (by omega)⟩
            have hg : R.getD k (0, 0) = x := by rw [List.getD_eq_getElem?_getD, hx]; rfl
            have h3 := r2 k x hx
            have hmod : (k : Int).tmod 2 = ((k % 2 : Nat) : Int) := by rw [Int.tmod_eq_emod_of_nonneg (by omega)]; omega
            unfold xs at h3
            rcases (show k % 2 = 0 ∨ k % 2 = 1 by omega) with h | h
            all_goals
              have ht : (k : Int).tmod 2 = ((k % 2 : Nat) : Int) := hmod
              rw [h] at ht
              simp only [h] at h3
              simp only [intsD, bytesD, runesD, G_ends_at, calmE, F_Runes, AV.flat, AV.flat.flatL, getD_iD, getD_rD, rD, iD, num_iD, List.length_map, pe_rune, numOf, ht, hg, Int.toNat_natCast, Int.reduceToNat, DRun_mk, runT_nil, runT_none, runT_guard, goT_val, goT_new, goT_store, goTG_val, goTH_true, goTH_false, evO, keys, Option.toList_some, Option.toList_none, nzL_nil, nzL_cons, nz_k, nz_sl, nz_nil, nz_agg, startL, evC, evV, goE_val, goE_new, goE_store, goH_true, goH_false, goG_val, lk_cons, lk_nil, lk_func, lk_int, lk_bool, lk_string, lk_slice, lk_agg, look_mk, St.effOf, eff, effCall, effBin, effUn, effConv, effPick, effNil, effFold, fold1, effLoad, effStore, effFieldAddr, effField, fieldOf, sliceOf, effIndexAddr, effIndex, effLen, effExtract, effSlice, bnd, effBuild, placesOf, effBuildSlice, effMakeSlice, effAppend, srcOf, fillA, chunk, seg, toD, toDs, put, eqAV, fieldsEq, leafEq, strip, unw, allB, selP_or, selP_and, tis, TyD.agg, AV.cells, AV.cell, allCell, vInt, vBool, vStr, subL_nil, subL_cons, upIds, AV.ids, AV.ids.idsL, AObj.ids, drops, Hp.get_cons, get_nil, retF, resL, one, fz, fz.fzL, List.map_cons, List.map_nil, List.nil_append, List.append_nil, List.cons_append, List.all_cons, List.all_nil, List.length_cons, List.length_nil, List.getElem?_cons_zero, List.getElem?_cons_succ, List.getD_cons_zero, List.getD_cons_succ, List.take_succ_cons, List.take_zero, List.drop_succ_cons, List.drop_zero, List.take_nil, List.drop_nil, List.contains_cons, List.contains_nil, Option.getD_some, Option.getD_none, Option.map_some, Option.map_none, if_true, if_false, true_and, and_true, and_self, or_self, or_false, false_or, false_and, and_false, reduceCtorEq, sel_and, sel_or, decide_eq_true_eq, Bool.and_eq_true, Bool.or_eq_true, Bool.and_true, Bool.true_and, Bool.or_false, Bool.false_or, Bool.true_or, Bool.or_true, Bool.not_true, Bool.not_false, Bool.false_eq_true, implies_true, not_false_eq_true, Nat.reduceLT, Nat.reduceEqDiff, Nat.reduceAdd, Nat.reduceMul, Nat.reduceMod, Nat.reduceLeDiff, Nat.reduceBEq, Nat.zero_add, Nat.add_zero, reduceIte, ↓reduceIte]
              rw [if_pos hk2]
              refine ⟨by omega, by decide, by decide, by kernel_rfl, ?_⟩
              rw [if_neg (by rw [h3]; decide)]
              refine ⟨k + 1, by omega, by omega, Le.of id [] ?_⟩
              simp only [slR_nil, slR_cons, hpR_nil, hpR_cells, hpR_row, idsR_nil, idsR_cons, mtE_v, mtE_sl, mtE_nil, mtE_refl, mtE_row, mtE_born, mtE_ptr, mtE_rp, mtE_agg, mtE_tup, mtE_fn, mtE_ep, MtL_nil, MtL_cons, Mt_v, Mt_sl, Mt_nil, Mt_refl, Mt_row, Mt_born, Mt_ptr, MtO_cells, MtO_row, liveIds, distinct, Dat.v.injEq, Dat.sl.injEq, Value.int.injEq, Value.bool.injEq, Value.string.injEq, lk_cons, lk_nil, subL_nil, subL_cons, upIds, AV.ids, AV.ids.idsL, AObj.ids, Hp.get_cons, get_nil, allCell, AV.cell, vInt, vBool, vStr, id, true_and, and_true, and_self, List.append_nil, List.nil_append, List.not_mem_nil, List.mem_cons, or_false, false_or, or_self, not_true_eq_false, not_false_eq_true, false_imp_iff, false_implies, List.map_nil, not_false_eq_true, List.contains_cons, List.contains_nil, Bool.or_false, Bool.false_or, Bool.true_or, Bool.or_true, Bool.and_true, Bool.true_and, implies_true, if_true, if_false, reduceCtorEq, Nat.reduceEqDiff, Nat.reduceBEq, Nat.reduceAdd, reduceIte, ↓reduceIte]
              exact w64 (by omega) (by omega)
          · simp only [intsD, bytesD, runesD, G_ends_at, calmE, F_Runes, AV.flat, AV.flat.flatL, getD_iD, getD_rD, rD, iD, num_iD, List.length_map, pe_rune, numOf, DRun_mk, runT_nil, runT_none, runT_guard, goT_val, goT_new, goT_store, goTG_val, goTH_true, goTH_false, evO, keys, Option.toList_some, Option.toList_none, nzL_nil, nzL_cons, nz_k, nz_sl, nz_nil, nz_agg, startL, evC, evV, goE_val, goE_new, goE_store, goH_true, goH_false, goG_val, lk_cons, lk_nil, lk_func, lk_int, lk_bool, lk_string, lk_slice, lk_agg, look_mk, St.effOf, eff, effCall, effBin, effUn, effConv, effPick, effNil, effFold, fold1, effLoad, effStore, effFieldAddr, effField, fieldOf, sliceOf, effIndexAddr, effIndex, effLen, effExtract, effSlice, bnd, effBuild, placesOf, effBuildSlice, effMakeSlice, effAppend, srcOf, fillA, chunk, seg, toD, toDs, put, eqAV, fieldsEq, leafEq, strip, unw, allB, selP_or, selP_and, tis, TyD.agg, AV.cells, AV.cell, allCell, vInt, vBool, vStr, subL_nil, subL_cons, upIds, AV.ids, AV.ids.idsL, AObj.ids, drops, Hp.get_cons, get_nil, retF, resL, one, fz, fz.fzL, List.map_cons, List.map_nil, List.nil_append, List.append_nil, List.cons_append, List.all_cons, List.all_nil, List.length_cons, List.length_nil, List.getElem?_cons_zero, List.getElem?_cons_succ, List.getD_cons_zero, List.getD_cons_succ, List.take_succ_cons, List.take_zero, List.drop_succ_cons, List.drop_zero, List.take_nil, List.drop_nil, List.contains_cons, List.contains_nil, Option.getD_some, Option.getD_none, Option.map_some, Option.map_none, if_true, if_false, true_and, and_true, and_self, or_self, or_false, false_or, false_and, and_false, reduceCtorEq, sel_and, sel_or, decide_eq_true_eq, Bool.and_eq_true, Bool.or_eq_true, Bool.and_true, Bool.true_and, Bool.or_false, Bool.false_or, Bool.true_or, Bool.or_true, Bool.not_true, Bool.not_false, Bool.false_eq_true, implies_true, not_false_eq_true, Nat.reduceLT, Nat.reduceEqDiff, Nat.reduceAdd, Nat.reduceMul, Nat.reduceMod, Nat.reduceLeDiff, Nat.reduceBEq, Nat.zero_add, Nat.add_zero, reduceIte, ↓reduceIte]
            rw [if_neg hk2]
theorem known_ends : Known Try.prog G_ends := ⟨known_cin2.ok.add fun args sc res h hs _ => by
    split at h <;> cases h
    exact alive_calm, known_cin2.loc.add _ _⟩
theorem CEnds_body (l : List Int) (_ : l.length ≤ maxLen ∧ ∀ x ∈ l, (Lit.int .i64 x).wf = true) : Body Try.prog G_ends (DRun Try.prog G_ends) 5 [.d (intsD l)] (vBool true) := Ends_body l
end Go.Proofs.Ytanepjclkciecaa.Eng
