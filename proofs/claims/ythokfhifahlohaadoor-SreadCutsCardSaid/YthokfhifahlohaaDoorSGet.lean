/- Numbers in base 64, read, on the small machine. -/
import Derived.Test.YthokfhifahlohaaDoorSVlq
import Derived.Test.YthokfhifahlohaaDoorSIb
namespace Go.Proofs.YthokfhifahlohaaDoor.Eng
open Go Go.Proofs.YthokfhifahlohaaDoor.Base
set_option maxRecDepth 100000
set_option linter.unusedSimpArgs false
set_option linter.unusedVariables false
/-- A letter's number; below 0: it is none. -/
def ix (c : UInt8) : Int := Lib.indexByte letB.data.toList c
theorem ix_range : ∀ c : UInt8, -1 ≤ ix c ∧ ix c < 64 := by
  have key : ∀ k : Fin 256, -1 ≤ ix (UInt8.ofNat k.val) ∧ ix (UInt8.ofNat k.val) < 64 := by decide +kernel
  intro c
  have := key ⟨c.toNat, c.toNat_lt⟩
  simpa using this
/-- The digits from a place on: the sum, and how many there were. -/
def vget : Nat → Nat → List UInt8 → Option (Nat × Nat)
  | _, _, [] => none
  | i, n, c :: l => if 9 ≤ i then none else if ix c < 0 then none else
    if 32 ≤ ix c then vget (i + 1) (n + ((ix c).toNat % 32) * 32 ^ i) l else some (n + (ix c).toNat * 32 ^ i, i + 1)
/-- A number, with its sign. -/
def sgn (n : Nat) : Int := if n % 2 = 1 then -((n / 2 : Nat) : Int) else ((n / 2 : Nat) : Int)
/-- The number that begins at a place, and where it ends. -/
def getV (s : ByteArray) (at_ : Nat) : Option (Int × Nat) :=
  match vget 0 0 (s.data.toList.drop at_) with
  | some (n, k) => if vq (sgn n) = s.extract at_ (at_ + k) then some (sgn n, at_ + k) else none
  | none => none
theorem vget_lt : ∀ (l : List UInt8) (i n m k : Nat), n < 32 ^ i → vget i n l = some (m, k) → m < 32 ^ k ∧ i < k ∧ k ≤ i + l.length ∧ k ≤ 9
  | [], i, n, m, k, _, h => by cases h
  | c :: l, i, n, m, k, hn, h => by
    have hr := ix_range c
    rw [vget] at h
    split at h
    · cases h
    · split at h
      · cases h
      · have hp : 32 ^ (i + 1) = 32 ^ i * 32 := Nat.pow_succ ..
        split at h
        · have h1 : n + ((ix c).toNat % 32) * 32 ^ i < 32 ^ (i + 1) := by
            have : ((ix c).toNat % 32) * 32 ^ i ≤ 31 * 32 ^ i := Nat.mul_le_mul_right _ (by omega)
            omega
          have := vget_lt l (i + 1) _ m k h1 h
          simp only [List.length_cons]; omega
        · cases h
          have : (ix c).toNat * 32 ^ i ≤ 31 * 32 ^ i := Nat.mul_le_mul_right _ (by omega)
          simp only [List.length_cons]; omega
def vgetT (s : ByteArray) (a : Nat) : AV := match getV s a with
    | some (n, e) => .tup [vInt .i64 n, vInt .i64 e, vBool true]
    | none => .tup [vInt .i64 0, vInt .i64 0, vBool false]
noncomputable def G_get : Gam := (Gam.none.add 26 fun a => F_ib (NT.nz.nzL [] a)).add 21 fun a => F_vput (NT.nz.nzL [] a)
theorem known_get : Known Tryd.prog G_get := ((Known.none _).addC _ ib_calm).addC _ vput_calm
theorem G_get_at : (∀ h d a, G_get 26 h d a = calmE (fun a => F_ib (NT.nz.nzL [] a)) h a) ∧ (∀ h d a, G_get 21 h d a = calmE (fun a => F_vput (NT.nz.nzL [] a)) h a) := ⟨fun _ _ _ => rfl, fun _ _ _ => rfl⟩
theorem letB_lit : (⟨#[65, 66, 67, 68, 69, 70, 71, 72, 73, 74, 75, 76, 77, 78, 79, 80, 81, 82, 83, 84, 85, 86, 87, 88, 89, 90, 97, 98, 99, 100, 101, 102, 103, 104, 105, 106, 107, 108, 109, 110, 111, 112, 113, 114, 115, 116, 117, 118, 119, 120, 121, 122, 48, 49, 50, 51, 52, 53, 54, 55, 56, 57, 43, 47]⟩ : ByteArray) = letB := rfl
theorem or_add {n d i : Nat} (hi : i < 9) (hd : d < 32) (hn : n < 32 ^ i) : bits .or .i64 (n : Int) (IntKind.i64.wrap ((d : Int) * 2 ^ min (IntKind.i64.wrap (5 * (i : Int))).toNat IntKind.i64.bits)) = ((n + d * 32 ^ i : Nat) : Int) := by
  have e1 : (IntKind.i64.wrap (5 * (i : Int))).toNat = 5 * i := by rw [w64 (by omega) (by omega)]; omega
  have e2 : min (5 * i) IntKind.i64.bits = 5 * i := Nat.min_eq_left (by show 5 * i ≤ 64; omega)
  have e3 : (2 : Int) ^ (5 * i) = ((32 ^ i : Nat) : Int) := by
    rw [show (32 : Nat) = 2 ^ 5 from rfl, ← Nat.pow_mul]; norm_cast
  have hp : 32 ^ i ≤ 32 ^ 8 := Nat.pow_le_pow_right (by decide) (by omega)
  have hm : d * 32 ^ i ≤ 31 * 32 ^ 8 := Nat.mul_le_mul (by omega) hp
  have hc : (d : Int) * ((32 ^ i : Nat) : Int) = ((d * 32 ^ i : Nat) : Int) := by push_cast; rfl
  rw [e1, e2, e3, hc, w64 (by omega) (by omega)]
  have comm : ∀ x y : Int, bits .or .i64 x y = bits .or .i64 y x := fun x y => by simp only [bits, BitVec.or_comm]
  have hlt : n < 2 ^ (5 * i) := by rw [Nat.pow_mul]; exact hn
  have hmod : ((d * 32 ^ i : Nat) : Int) % 2 ^ (5 * i) = 0 := by
    rw [e3]
    have : d * 32 ^ i % 32 ^ i = 0 := Nat.mul_mod_left ..
    omega
  rw [comm, bits_join .i64 62 (by decide) wraps62 (5 * i) _ _ (by omega) hmod (by omega) (by omega) (by rw [e3]; omega) (by omega)]
  omega
theorem and1 (n : Nat) (h : n < 32 ^ 9) : bits .and .i64 (n : Int) 1 = ((n % 2 : Nat) : Int) := by
  have := bits_mask .i64 62 (by decide) wraps62 1 (by decide) (n : Int) (by omega) (by omega)
  have e : bits .and .i64 (n : Int) 1 = (n : Int) % 2 := this
  rw [e]; omega
theorem emp_app' (b : ByteArray) : (⟨#[]⟩ : ByteArray) ++ b = b := by apply ByteArray.ext; simp
theorem bs_iff (a b : ByteArray) : ((a.toList == b.toList) = true) ↔ a = b := by
  rw [beq_iff_eq, ByteArray.toList_eq, ByteArray.toList_eq]
  exact ⟨fun h => ByteArray.ext (Array.toList_inj.mp h), fun h => by rw [h]⟩
theorem get_body (s : ByteArray) (a : Nat) (hs : s.size ≤ 1000000000) (ha : a ≤ 1000000000) : Body Tryd.prog G_get (DRun Tryd.prog G_get) 17 [vStr s, vInt .i64 a] (vgetT s a) := by
  refine Body.of Tryd.func17 Tryd.ntmps17 (by kernel_rfl) rfl rfl rfl ?_
  simp only [letB_lit, G_get_at, calmE, F_ib, F_vput, AV.flat, AV.flat.flatL, goTG_val, goTG_new, goTG_up, goTG_none, goG_none, goG_new, goG_up, ne_eq, evK, evH, retHF, DRun_mk, runT_nil, runT_none, runT_guard, goT_val, goT_new, goT_store, goTH_true, goTH_false, evO, keys, Option.toList_some, Option.toList_none, nzL_nil, nzL_cons, nz_k, nz_sl, nz_nil, nz_agg, startL, evC, evV, goE_val, goE_new, goE_store, goH_true, goH_false, goG_val, lk_cons, lk_nil, lk_func, lk_int, lk_bool, lk_string, lk_slice, lk_agg, look_mk, St.effOf, eff, effCall, effBin, effUn, effConv, effPick, effNil, effFold, fold1, effLoad, effStore, effFieldAddr, effField, fieldOf, sliceOf, effIndexAddr, effIndex, effLen, effExtract, effSlice, bnd, effBuild, placesOf, effBuildSlice, effMakeSlice, effAppend, srcOf, fillA, chunk, seg, toD, toDs, put, eqAV, fieldsEq, leafEq, strip, unw, allB, selP_or, selP_and, tis, TyD.agg, AV.cells, AV.cell, allCell, vInt, vBool, vStr, subL_nil, subL_cons, upIds, AV.ids, AV.ids.idsL, AObj.ids, drops, Hp.get_cons, get_nil, retF, resL, one, fz, fz.fzL, List.map_cons, List.map_nil, List.nil_append, List.append_nil, List.cons_append, List.all_cons, List.all_nil, List.length_cons, List.length_nil, List.getElem?_cons_zero, List.getElem?_cons_succ, List.getD_cons_zero, List.getD_cons_succ, List.take_succ_cons, List.take_zero, List.drop_succ_cons, List.drop_zero, List.take_nil, List.drop_nil, List.contains_cons, List.contains_nil, Option.getD_some, Option.getD_none, Option.map_some, Option.map_none, if_true, if_false, true_and, and_true, and_self, or_self, or_false, false_or, false_and, and_false, reduceCtorEq, sel_and, sel_or, decide_eq_true_eq, Bool.and_eq_true, Bool.or_eq_true, Bool.and_true, Bool.true_and, Bool.or_false, Bool.false_or, Bool.true_or, Bool.or_true, Bool.not_true, Bool.not_false, Bool.false_eq_true, implies_true, not_false_eq_true, Nat.reduceLT, Nat.reduceEqDiff, Nat.reduceAdd, Nat.reduceMul, Nat.reduceMod, Nat.reduceLeDiff, Nat.reduceBEq, Nat.zero_add, Nat.add_zero, reduceIte, ↓reduceIte, List.not_mem_nil]
  refine wpc_loop (fun q : Nat × Nat => ⟨64, [], [(0, vStr s), (1, vInt .i64 a), (7, vInt .i64 q.2), (8, vInt .i64 q.1)], []⟩) (fun q => q.1 ≤ 9 ∧ q.2 < 32 ^ q.1 ∧ (q.1 = 0 ∨ a + q.1 ≤ s.size) ∧ vget q.1 q.2 (s.data.toList.drop (a + q.1)) = vget 0 0 (s.data.toList.drop a)) (fun q => 9 - q.1) (0, 0) ⟨Nat.zero_le _, by decide, .inl rfl, rfl⟩ ?_ ?_
  · refine Le.of id [] ?_
    simp only [Mt_tup, Mt_agg, Mt_fn, forall_eq, forall_eq_or_imp, ne_eq, List.all_cons, List.all_nil, pr, Nat.reduceLeDiff, slR_nil, slR_cons, hpR_nil, hpR_cells, hpR_row, idsR_nil, idsR_cons, mtE_v, mtE_sl, mtE_nil, mtE_refl, mtE_row, mtE_born, mtE_ptr, mtE_rp, mtE_agg, mtE_tup, mtE_fn, mtE_ep, MtL_nil, MtL_cons, Mt_v, Mt_sl, Mt_nil, Mt_refl, Mt_row, Mt_born, Mt_ptr, MtO_cells, MtO_row, liveIds, distinct, Dat.v.injEq, Dat.sl.injEq, Value.int.injEq, Value.bool.injEq, Value.string.injEq, lk_cons, lk_nil, subL_nil, subL_cons, upIds, AV.ids, AV.ids.idsL, AObj.ids, Hp.get_cons, get_nil, allCell, AV.cell, vInt, vBool, vStr, id, true_and, and_true, and_self, List.append_nil, List.nil_append, List.not_mem_nil, List.mem_cons, or_false, false_or, or_self, not_true_eq_false, not_false_eq_true, false_imp_iff, false_implies, List.map_nil, not_false_eq_true, List.contains_cons, List.contains_nil, Bool.or_false, Bool.false_or, Bool.true_or, Bool.or_true, Bool.and_true, Bool.true_and, implies_true, if_true, if_false, reduceCtorEq, Nat.reduceEqDiff, Nat.reduceBEq, Nat.reduceAdd, reduceIte, ↓reduceIte]
    first | rfl | exact ⟨rfl, rfl⟩
  · rintro ⟨i, n⟩ ⟨h1, h2, h3, h4⟩
    simp only [] at h1 h2 h3 h4
    simp only [letB_lit, G_get_at, calmE, F_ib, F_vput, AV.flat, AV.flat.flatL, goTG_val, goTG_new, goTG_up, goTG_none, goG_none, goG_new, goG_up, ne_eq, evK, evH, retHF, DRun_mk, runT_nil, runT_none, runT_guard, goT_val, goT_new, goT_store, goTH_true, goTH_false, evO, keys, Option.toList_some, Option.toList_none, nzL_nil, nzL_cons, nz_k, nz_sl, nz_nil, nz_agg, startL, evC, evV, goE_val, goE_new, goE_store, goH_true, goH_false, goG_val, lk_cons, lk_nil, lk_func, lk_int, lk_bool, lk_string, lk_slice, lk_agg, look_mk, St.effOf, eff, effCall, effBin, effUn, effConv, effPick, effNil, effFold, fold1, effLoad, effStore, effFieldAddr, effField, fieldOf, sliceOf, effIndexAddr, effIndex, effLen, effExtract, effSlice, bnd, effBuild, placesOf, effBuildSlice, effMakeSlice, effAppend, srcOf, fillA, chunk, seg, toD, toDs, put, eqAV, fieldsEq, leafEq, strip, unw, allB, selP_or, selP_and, tis, TyD.agg, AV.cells, AV.cell, allCell, vInt, vBool, vStr, subL_nil, subL_cons, upIds, AV.ids, AV.ids.idsL, AObj.ids, drops, Hp.get_cons, get_nil, retF, resL, one, fz, fz.fzL, List.map_cons, List.map_nil, List.nil_append, List.append_nil, List.cons_append, List.all_cons, List.all_nil, List.length_cons, List.length_nil, List.getElem?_cons_zero, List.getElem?_cons_succ, List.getD_cons_zero, List.getD_cons_succ, List.take_succ_cons, List.take_zero, List.drop_succ_cons, List.drop_zero, List.take_nil, List.drop_nil, List.contains_cons, List.contains_nil, Option.getD_some, Option.getD_none, Option.map_some, Option.map_none, if_true, if_false, true_and, and_true, and_self, or_self, or_false, false_or, false_and, and_false, reduceCtorEq, sel_and, sel_or, decide_eq_true_eq, Bool.and_eq_true, Bool.or_eq_true, Bool.and_true, Bool.true_and, Bool.or_false, Bool.false_or, Bool.true_or, Bool.or_true, Bool.not_true, Bool.not_false, Bool.false_eq_true, implies_true, not_false_eq_true, Nat.reduceLT, Nat.reduceEqDiff, Nat.reduceAdd, Nat.reduceMul, Nat.reduceMod, Nat.reduceLeDiff, Nat.reduceBEq, Nat.zero_add, Nat.add_zero, reduceIte, ↓reduceIte, List.not_mem_nil]
    by_cases c : ((i : Int) < 9 ∧ (a : Int) ≥ 0) ∧ (a : Int) < IntKind.i64.wrap (s.size - i)
    · rw [if_pos c]
      have hc3 := c.2
      rw [w64 (by omega) (by omega)] at hc3
      have hwa : IntKind.i64.wrap ((a : Int) + i) = ((a + i : Nat) : Int) := by rw [w64 (by omega) (by omega)]; omega
      rw [hwa]
      obtain ⟨ch, hch⟩ : ∃ ch, s.data.toList[a + i]? = some ch := ⟨_, List.getElem?_eq_getElem (by rw [size_toList]; omega)⟩
      have hbt : (bt s ((a + i : Nat) : Int)).toNat.toUInt8 = ch := by
        have e1 : bt s ((a + i : Nat) : Int) = (ch.toNat : Int) := by
          rw [bt, show ((a + i : Nat) : Int).toNat = a + i from Int.toNat_natCast _, List.getD_eq_getElem?_getD, hch]; rfl
        rw [e1, Int.toNat_natCast]; simp
      rw [hbt]
      rw [drop_at hch, vget] at h4
      have hix : Lib.indexByte letB.data.toList ch = ix ch := rfl
      rw [hix]
      have hr := ix_range ch
      refine ⟨⟨by omega, by omega⟩, ?_⟩
      rw [if_neg (by omega)] at h4
      by_cases c1 : ix ch < 0
      · rw [if_pos c1]
        rw [if_pos c1] at h4
        rw [vgetT, getV, ← h4]
        exact Sub.refl _
      rw [if_neg c1]
      rw [if_neg c1] at h4
      obtain ⟨dn, hdn⟩ := Int.eq_ofNat_of_zero_le (show 0 ≤ ix ch by omega)
      have htm : (ix ch).tmod 32 = ((dn % 32 : Nat) : Int) := by rw [hdn, Int.tmod_eq_emod_of_nonneg (by omega)]; omega
      have hor := or_add (n := n) (d := dn % 32) (i := i) (by omega) (by omega) h2
      rw [htm, hor]
      have hn5 : 0 ≤ IntKind.i64.wrap (5 * (i : Int)) := by rw [w64 (by omega) (by omega)]; omega
      refine ⟨by decide, hn5, ?_⟩
      have hnn : n + dn % 32 * 32 ^ i < 32 ^ (i + 1) := by
        rw [Nat.pow_succ]
        have : dn % 32 * 32 ^ i ≤ 31 * 32 ^ i := Nat.mul_le_mul_right _ (by omega)
        omega
      by_cases c2 : ix ch ≥ 32
      · rw [if_pos c2]
        rw [if_pos (show 32 ≤ ix ch from c2)] at h4
        refine ⟨(i + 1, n + dn % 32 * 32 ^ i), by simp only []; omega, ⟨by simp only []; omega, hnn, .inr (by simp only []; omega), ?_⟩, Le.of id [] ?_⟩
        · simp only []
          rw [← h4, hdn]; rfl
        · simp only [Mt_tup, Mt_agg, Mt_fn, forall_eq, forall_eq_or_imp, ne_eq, List.all_cons, List.all_nil, pr, Nat.reduceLeDiff, slR_nil, slR_cons, hpR_nil, hpR_cells, hpR_row, idsR_nil, idsR_cons, mtE_v, mtE_sl, mtE_nil, mtE_refl, mtE_row, mtE_born, mtE_ptr, mtE_rp, mtE_agg, mtE_tup, mtE_fn, mtE_ep, MtL_nil, MtL_cons, Mt_v, Mt_sl, Mt_nil, Mt_refl, Mt_row, Mt_born, Mt_ptr, MtO_cells, MtO_row, liveIds, distinct, Dat.v.injEq, Dat.sl.injEq, Value.int.injEq, Value.bool.injEq, Value.string.injEq, lk_cons, lk_nil, subL_nil, subL_cons, upIds, AV.ids, AV.ids.idsL, AObj.ids, Hp.get_cons, get_nil, allCell, AV.cell, vInt, vBool, vStr, id, true_and, and_true, and_self, List.append_nil, List.nil_append, List.not_mem_nil, List.mem_cons, or_false, false_or, or_self, not_true_eq_false, not_false_eq_true, false_imp_iff, false_implies, List.map_nil, not_false_eq_true, List.contains_cons, List.contains_nil, Bool.or_false, Bool.false_or, Bool.true_or, Bool.or_true, Bool.and_true, Bool.true_and, implies_true, if_true, if_false, reduceCtorEq, Nat.reduceEqDiff, Nat.reduceBEq, Nat.reduceAdd, reduceIte, ↓reduceIte]
          exact w64 (by omega) (by omega)
      · rw [if_neg c2]
        rw [if_neg (show ¬ 32 ≤ ix ch from c2), hdn, Int.toNat_natCast] at h4
        have hdd : dn % 32 = dn := by omega
        rw [hdd] at hnn ⊢
        have h9 : n + dn * 32 ^ i < 32 ^ 9 := Nat.lt_of_lt_of_le hnn (Nat.pow_le_pow_right (by decide) (by omega))
        generalize n + dn * 32 ^ i = m at h4 hnn h9 ⊢
        rw [and1 m h9]
        have hgv : getV s a = if vq (sgn m) = s.extract a (a + (i + 1)) then some (sgn m, a + (i + 1)) else none := by
          rw [getV, ← h4]
        have hwe : IntKind.i64.wrap (((a + i : Nat) : Int) + 1) = ((a + (i + 1) : Nat) : Int) := by rw [w64 (by omega) (by omega)]; omega
        rw [hwe]
        have fin : ∀ v : Int, v = sgn m → (if (((⟨#[]⟩ : ByteArray) ++ vq v).toList == (s.extract ((a : Nat) : Int).toNat ((a + (i + 1) : Nat) : Int).toNat).toList) = true then
            Sub (AV.tup [AV.d (Dat.v (Value.int IntKind.i64 v)), AV.d (Dat.v (Value.int IntKind.i64 ((a + (i + 1) : Nat) : Int))), AV.d (Dat.v (Value.bool true))]) (vgetT s a)
            else Sub (AV.tup [AV.d (Dat.v (Value.int IntKind.i64 0)), AV.d (Dat.v (Value.int IntKind.i64 0)), AV.d (Dat.v (Value.bool false))]) (vgetT s a)) := by
          intro v hv
          subst hv
          rw [emp_app', Int.toNat_natCast, Int.toNat_natCast, vgetT, hgv]
          by_cases q : vq (sgn m) = s.extract a (a + (i + 1))
          · rw [if_pos ((bs_iff _ _).2 q), if_pos q]
            exact Sub.refl _
          · rw [if_neg (fun h => q ((bs_iff _ _).1 h)), if_neg q]
            exact Sub.refl _
        by_cases c3 : (((m % 2 : Nat) : Int) == 1) = true
        · rw [if_pos c3]
          have hodd : m % 2 = 1 := by
            have := beq_iff_eq.1 c3; omega
          refine ⟨by decide, by decide, ⟨by omega, by omega, by omega⟩, by kernel_rfl, fin _ ?_⟩
          rw [w64 (n := 0 - (m : Int)) (by omega) (by omega), show (0 - (m : Int)) = -(m : Int) by omega, Int.neg_tdiv, Int.tdiv_eq_ediv_of_nonneg (by omega), sgn, if_pos hodd, w64 (by omega) (by omega)]
          omega
        · rw [if_neg c3]
          have heven : ¬ m % 2 = 1 := fun h => c3 (by rw [h]; rfl)
          refine ⟨by decide, by decide, ⟨by omega, by omega, by omega⟩, by kernel_rfl, fin _ ?_⟩
          rw [Int.tdiv_eq_ediv_of_nonneg (by omega), sgn, if_neg heven, w64 (by omega) (by omega)]
          omega
    · rw [if_neg c]
      have hv : getV s a = none := by
        have e : vget i n (s.data.toList.drop (a + i)) = none := by
          by_cases h9 : i = 9
          · cases hl : s.data.toList.drop (a + i) with
            | nil => rfl
            | cons x l => rw [vget, if_pos (by omega)]
          · have hle : s.size ≤ a + i := by
              rcases Int.lt_or_le (a : Int) (IntKind.i64.wrap (s.size - i)) with h | h
              · exact absurd ⟨⟨by omega, by omega⟩, h⟩ c
              · rw [w64 (by omega) (by omega)] at h; omega
            rw [List.drop_eq_nil_of_le (by rw [size_toList]; omega)]; rfl
        rw [getV, ← h4, e]
      rw [vgetT, hv]
      try exact Sub.refl _
def F_vget : List AV → Option (Prop × AV)
  | [.d (.v (.string s)), .d (.v (.int .i64 a))] => some (s.size ≤ 1000000000 ∧ 0 ≤ a ∧ a ≤ 1000000000, vgetT s a.toNat)
  | _ => none
theorem vgetT_ids (s : ByteArray) (a : Nat) : (vgetT s a).ids = [] := by unfold vgetT; split <;> rfl
theorem vget_calm : ∀ args sc res, F_vget args = some (sc, res) → sc → Calm Tryd.prog 17 args res := by
  intro args sc res h hs
  unfold F_vget at h
  split at h <;> cases h
  rename_i s a
  obtain ⟨h1, h2, h3⟩ := hs
  have hb := get_body s a.toNat h1 (by omega)
  rw [show ((a.toNat : Nat) : Int) = a by omega] at hb
  exact known_get.calm mixed rfl (vgetT_ids _ _) hb
end Go.Proofs.YthokfhifahlohaaDoor.Eng
