/- SmapJson: part 7 of 15. -/
import Derived.Test.YtgbialeahdoelaaBSmapJsonf
section
namespace Go.Proofs.Ytgbialeahdoelaa.Eng
open Go Go.Proofs.Ytgbialeahdoelaa.Base
set_option maxRecDepth 100000
set_option linter.unusedSimpArgs false
set_option linter.unusedVariables false
def pairV (r : Int) : List Int := if r < 65536 then [r] else [55296 + (r - 65536) / 1024, 56320 + (r - 65536) % 1024]
def hexQ : List Int → Int
 | p :: q :: r :: s :: _ => ((Jstr.hexv p * 16 + Jstr.hexv q) * 16 + Jstr.hexv r) * 16 + Jstr.hexv s
 | _ => 0
def juV : Nat → List Int → List Int
 | 0, _ => []
 | f + 1, u => match u with
  | [] => []
  | [_] => []
  | c :: d :: t => if c = 92 then (if d = 117 then hexQ t :: juV f (t.drop 4) else Jstr.escv d :: juV f t) else pairV (Utf.dec (c :: d :: t)).1 ++ juV f ((c :: d :: t).drop (Utf.dec (c :: d :: t)).2.1.toNat)
theorem juV_len : ∀ (f : Nat) (u : List Int), u.length ≤ 1 → juV f u = []
 | 0, _, _ => rfl
 | f + 1, [], _ => rfl
 | f + 1, [_], _ => rfl
 | f + 1, _ :: _ :: _, h => by simp at h
theorem juV_cons (f : Nat) (c d : Int) (t : List Int) : juV (f + 1) (c :: d :: t) = if c = 92 then (if d = 117 then hexQ t :: juV f (t.drop 4) else Jstr.escv d :: juV f t) else pairV (Utf.dec (c :: d :: t)).1 ++ juV f ((c :: d :: t).drop (Utf.dec (c :: d :: t)).2.1.toNat) := rfl
theorem juV_fuel : ∀ (n m : Nat) (u : List Int), Bytes u → u.length ≤ n → u.length ≤ m → juV n u = juV m u
 | 0, m, u, _, h, _ => by rw [juV_len 0 u (by omega), juV_len m u (by omega)]
 | n + 1, 0, u, _, _, h => by rw [juV_len (n + 1) u (by omega), juV_len 0 u (by omega)]
 | n + 1, m + 1, [], _, _, _ => rfl
 | n + 1, m + 1, [_], _, _, _ => rfl
 | n + 1, m + 1, c :: d :: t, hb, h1, h2 => by
  have hd := Utf.dec_len hb (fun h => by cases h)
  have hbt : Bytes t := fun x hx => hb x (by simp [hx])
  simp only [List.length_cons] at h1 h2
  rw [juV_cons, juV_cons]
  rw [juV_fuel n m (t.drop 4) (fun x hx => hbt x (List.mem_of_mem_drop hx)) (by rw [List.length_drop]; omega) (by rw [List.length_drop]; omega), juV_fuel n m t hbt (by omega) (by omega),
   juV_fuel n m ((c :: d :: t).drop (Utf.dec (c :: d :: t)).2.1.toNat) (fun x hx => hb x (List.mem_of_mem_drop hx)) (by rw [List.length_drop]; simp only [List.length_cons]; omega) (by rw [List.length_drop]; simp only [List.length_cons]; omega)]
theorem enc_high {r : Int} (h : 128 ≤ r) : ∀ x ∈ Utf.enc r, 128 ≤ x := by
 unfold Utf.enc
 intro x hx
 (repeat' split at hx) <;> simp only [List.mem_cons, List.not_mem_nil, or_false] at hx <;> omega
theorem text_high : ∀ (w t : List Int), Bytes (w ++ t) → (∀ x ∈ w, 128 ≤ x) → Jlex.textLen (w ++ t) = (Jlex.textLen t).map (· + w.length)
 | [], t, _, _ => by rw [List.nil_append]; cases Jlex.textLen t <;> rfl
 | c :: w, t, hb, h => by
  have hc := h c List.mem_cons_self
  have hbt : Bytes (w ++ t) := fun x hx => hb x (List.mem_cons_of_mem _ hx)
  rw [List.cons_append, textLen_step hbt, if_neg (by omega), if_neg (by omega), if_neg (by omega), text_high w t hbt (fun x hx => h x (List.mem_cons_of_mem _ hx))]
  cases Jlex.textLen t with
  | none => rfl
  | some n =>
   simp only [Option.map_some, List.length_cons]
   exact congrArg some (by omega)
theorem dec_rng {l : List Int} (hb : Bytes l) (h : l ≠ []) : 0 ≤ (Utf.dec l).1 ∧ (Utf.dec l).1 ≤ 1114111 := by
 cases hk : (Utf.dec l).2.2 with
 | false => rw [Utf.dec_false h hk]; exact ⟨by decide, by decide⟩
 | true =>
  obtain ⟨r, n, ok, hq⟩ : ∃ r n ok, Utf.dec l = (r, n, ok) := ⟨_, _, _, rfl⟩
  rw [hq] at hk ⊢
  have hk : ok = true := hk
  subst hk
  have := (Utf.enc_dec hb hq).1
  exact ⟨this.1, this.2.1⟩
theorem pairV_len (r : Int) : 1 ≤ (pairV r).length ∧ (pairV r).length ≤ 2 := by unfold pairV; split <;> simp
def hexP (t : List Int) : Nat → Int
 | 0 => 0
 | j + 1 => hexP t j * 16 + Jstr.hexv (t.getD j 0)
theorem hexP_4 {t : List Int} (h : 4 ≤ t.length) : hexP t 4 = hexQ t := by
 rcases t with _ | ⟨p, _ | ⟨q, _ | ⟨r, _ | ⟨s, t⟩⟩⟩⟩
 ·simp at h
 ·simp at h
 ·simp at h
 ·simp at h
 ·show (((0 * 16 + Jstr.hexv p) * 16 + Jstr.hexv q) * 16 + Jstr.hexv r) * 16 + Jstr.hexv s = _
  rw [show hexQ (p :: q :: r :: s :: t) = ((Jstr.hexv p * 16 + Jstr.hexv q) * 16 + Jstr.hexv r) * 16 + Jstr.hexv s from rfl]; omega
theorem hexP_rng {t : List Int} {j : Nat} (hj : j ≤ 4) (h : ∀ i, i < j → 0 ≤ Jstr.hexv (t.getD i 0)) : 0 ≤ hexP t j ∧ hexP t j < 16 ^ j := by
 induction j with
 | zero => exact ⟨Int.le_refl _, by show (0 : Int) < 1; decide⟩
 | succ j ih =>
  obtain ⟨h1, h2⟩ := ih (by omega) (fun i hi => h i (by omega))
  have h3 := h j (by omega)
  have h4 := Jstr.hexv_lt (t.getD j 0)
  rw [hexP, Int.pow_succ]
  omega
theorem text_skip {c d : Int} {t : List Int} (hb : Bytes (c :: d :: t)) (hc : c ≠ 92) (h : Jlex.textLen (c :: d :: t) = some (c :: d :: t).length) :
  1 ≤ (Utf.dec (c :: d :: t)).2.1.toNat ∧ (Utf.dec (c :: d :: t)).2.1.toNat ≤ (c :: d :: t).length ∧ Jlex.textLen ((c :: d :: t).drop (Utf.dec (c :: d :: t)).2.1.toNat) = some ((c :: d :: t).length - (Utf.dec (c :: d :: t)).2.1.toNat) := by
 have hd := Utf.dec_len hb (fun h => by cases h)
 have hbt : Bytes (d :: t) := fun x hx => hb x (List.mem_cons_of_mem _ hx)
 refine ⟨by omega, by omega, ?_⟩
 have h1 : Jlex.textLen (d :: t) = some ((c :: d :: t).length - 1) := by
  rw [textLen_step hbt] at h
  split at h
  ·simp only [List.length_cons, Option.some.injEq] at h; omega
  split at h
  ·cases h
  try rw [if_neg hc] at h
  obtain ⟨m, h1, h2⟩ := Jlex.map_some h
  rw [h1]; congr 1; omega
 by_cases hn : (Utf.dec (c :: d :: t)).2.1 = 1
 ·rw [hn]; exact h1
 ·obtain ⟨r, n, ok, hq⟩ : ∃ r n ok, Utf.dec (c :: d :: t) = (r, n, ok) := ⟨_, _, _, rfl⟩
  rw [hq] at hn hd ⊢
  simp only [] at hn hd ⊢
  cases ok with
  | false =>
   have := Utf.dec_false (l := c :: d :: t) (fun h => by cases h) (by rw [hq])
   rw [hq] at this
   unfold Utf.bad at this
   simp only [Prod.mk.injEq] at this
   exact absurd this.2.1 hn
  | true =>
   obtain ⟨k1, k2, t', k3⟩ := Utf.enc_dec hb hq
   have hr : 128 ≤ r := by
    by_cases h128 : r < 128
    ·exfalso; apply hn; rw [k2]; unfold Utf.size; rw [if_pos h128]
    ·omega
   have hl : (Utf.enc r).length = n.toNat := by have := Utf.enc_size (r := r); omega
   rw [k3] at h hb ⊢
   rw [text_high _ _ hb (enc_high hr)] at h
   obtain ⟨m, h2, h3⟩ := Jlex.map_some h
   rw [← hl, List.drop_left, h2, List.length_append] at *
   congr 1; omega
theorem and1k' {x : Int} (h0 : 0 ≤ x) (h1 : x < 2 ^ 31) : bits .and .i64 x 1023 = x % 1024 :=
 bits_mask .i64 31 (by decide) wraps_i64 10 (by decide) x h0 h1
theorem pair_body (r : Int) (h0 : 0 ≤ r) (h1 : r ≤ 1114111) : Body Try.prog Gam.none (DRun Try.prog Gam.none) 58 [vInt .i64 r] (.d (intsD (pairV r))) := by
 refine Body.of Try.func58 Try.ntmps58 (by kernel_rfl) rfl rfl rfl ?_
 simp only [intsD, iD, Int.reduceLE, Int.reduceLT, Int.reduceGT, Int.reduceGE, Int.reduceBEq, Int.reduceBNe, Int.reduceEq, Int.reduceToNat, Int.reduceSub, Int.reduceAdd, Int.reduceMul, Int.reducePow, Int.reduceNeg, goTG_val, goTG_new, goTG_up, goTG_none, goG_none, goG_new, goG_up, ne_eq, evK, evH, retHF, DRun_mk, runT_nil, runT_none, runT_guard, goT_val, goT_new, goT_store, goTH_true, goTH_false, evO, keys, Option.toList_some, Option.toList_none, nzL_nil, nzL_cons, nz_k, nz_sl, nz_nil, nz_agg, startL, evC, evV, goE_val, goE_new, goE_store, goH_true, goH_false, goG_val, lk_cons, lk_nil, lk_func, lk_int, lk_bool, lk_string, lk_slice, lk_agg, look_mk, St.effOf, eff, effCall, effBinC, isConst, effBin, effUn, effConv, effPick, effNil, effFold, fold1, effLoad, effStore, effFieldAddr, effField, fieldOf, sliceOf, effIndexAddr, effIndex, effLen, effExtract, effSlice, dats, bnd, effBuild, placesOf, effBuildSlice, effMakeSlice, effAppend, srcOf, fillA, chunk, seg, toD, toDs, put, eqAV, fieldsEq, leafEq, strip, unw, allB, selP_or, selP_and, tis, TyD.agg, AV.cells, AV.cell, allCell, vInt, vBool, vStr, subL_nil, subL_cons, upIds, AV.ids, AV.ids.idsL, AObj.ids, drops, Hp.get_cons, get_nil, retF, resL, one, fz, fz.fzL, List.map_cons, List.map_nil, List.nil_append, List.append_nil, List.cons_append, List.all_cons, List.all_nil, List.length_cons, List.length_nil, List.getElem?_cons_zero, List.getElem?_cons_succ, List.getD_cons_zero, List.getD_cons_succ, List.take_succ_cons, List.take_zero, List.drop_succ_cons, List.drop_zero, List.take_nil, List.drop_nil, List.contains_cons, List.contains_nil, Option.getD_some, Option.getD_none, Option.map_some, Option.map_none, if_true, if_false, true_and, and_true, and_self, or_self, or_false, false_or, false_and, and_false, reduceCtorEq, sel_and, sel_or, decide_eq_true_eq, Bool.and_eq_true, Bool.or_eq_true, Bool.and_true, Bool.true_and, Bool.or_false, Bool.false_or, Bool.true_or, Bool.or_true, Bool.not_true, Bool.not_false, Bool.false_eq_true, implies_true, not_false_eq_true, Nat.reduceLT, Nat.reduceEqDiff, Nat.reduceAdd, Nat.reduceMul, Nat.reduceMod, Nat.reduceLeDiff, Nat.reduceBEq, Nat.zero_add, Nat.add_zero, reduceIte, ↓reduceIte, List.not_mem_nil]
 unfold pairV
 by_cases c : r < 65536
 ·rw [if_pos c, if_pos c]
  exact Sub.refl _
 ·rw [if_neg c, if_neg c]
  have e1 : IntKind.i64.wrap (r - 65536) = r - 65536 := w64 (by omega) (by omega)
  have e2 : (2 : Int) ^ min 10 IntKind.i64.bits = 1024 := by decide
  have e3 : bits .and .i64 (r - 65536) 1023 = (r - 65536) % 1024 := and1k' (by omega) (by omega)
  rw [e1, e2, e3, Int.fdiv_eq_ediv_of_nonneg _ (by decide), w64 (by omega) (by omega), w64 (by omega) (by omega)]
  exact Sub.refl _
def F_pair : List AV → Option (Prop × AV)
 | [.d (.v (.int .i64 r))] => some (0 ≤ r ∧ r ≤ 1114111, .d (intsD (pairV r)))
 | _ => none
theorem pair_calm : ∀ args sc res, F_pair args = some (sc, res) → sc → Calm Try.prog 58 args res := by
 intro args sc res h hs
 unfold F_pair at h
 split at h <;> cases h
 exact (Known.none _).calm mixed rfl rfl (pair_body _ hs.1 hs.2)
def juF (l : List Int) : List Int × Bool :=
 if l.length < 2 ∨ l.getD 0 0 ≠ 34 ∨ Jlex.textLen (l.drop 1) ≠ some (l.length - 1) then ([], false) else if (vals l.length l).2 = false then ([], false) else (juV l.length (l.drop 1), true)
noncomputable def G_ju : Gam := (((((Gam.none.add 51 fun a => F_txj (NT.nz.nzL [.s 1] a)).add 13 fun a => F_val (NT.nz.nzL [.s 1] a)).add 29 fun a => F_Next (NT.nz.nzL [.s 1, .k] a)).add 58 fun a => F_pair (NT.nz.nzL [] a)).add 59 fun a => F_hexd (NT.nz.nzL [] a))
theorem known_G_ju : Known Try.prog G_ju := (((((Known.none _).addC _ rtx_calm).addC _ rval_calm).addC _ RNext_calm).addC _ pair_calm).addC _ hexd_calm
theorem G_ju_at : (∀ h d a, G_ju 51 h d a = calmE (fun a => F_txj (NT.nz.nzL [.s 1] a)) h a) ∧ (∀ h d a, G_ju 13 h d a = calmE (fun a => F_val (NT.nz.nzL [.s 1] a)) h a) ∧ (∀ h d a, G_ju 29 h d a = calmE (fun a => F_Next (NT.nz.nzL [.s 1, .k] a)) h a) ∧ (∀ h d a, G_ju 58 h d a = calmE (fun a => F_pair (NT.nz.nzL [] a)) h a) ∧ (∀ h d a, G_ju 59 h d a = calmE (fun a => F_hexd (NT.nz.nzL [] a)) h a) := ⟨fun _ _ _ => rfl, fun _ _ _ => rfl, fun _ _ _ => rfl, fun _ _ _ => rfl, fun _ _ _ => rfl⟩
set_option maxHeartbeats 1000000 in
theorem ju_body (l : List Int) (hb : Bytes l) (hl : l.length ≤ 100000000) : Body Try.prog G_ju (DRun Try.prog G_ju) 34 [.d (bytesD l)] (.tup [.d (intsD (juF l).1), vBool (juF l).2]) := by
 refine Body.of Try.func34 Try.ntmps34 (by kernel_rfl) rfl rfl rfl ?_
 have nz1 : ∀ xs, (NT.s 1).nz (.d (.sl 1 xs)) = .d (.sl 1 xs) := fun xs => rfl
 simp only [bytesD, intsD, getD_iD, iD, num_iD, nz1, G_ju_at, calmE, F_txj, F_val, F_Next, F_pair, F_hexd, Int.toNat_natCast, AV.flat, AV.flat.flatL, List.length_map, Int.reduceLE, Int.reduceLT, Int.reduceGT, Int.reduceGE, Int.reduceBEq, Int.reduceBNe, Int.reduceEq, Int.reduceToNat, Int.reduceSub, Int.reduceAdd, Int.reduceMul, Int.reducePow, Int.reduceNeg, goTG_val, goTG_new, goTG_up, goTG_none, goG_none, goG_new, goG_up, ne_eq, evK, evH, retHF, DRun_mk, runT_nil, runT_none, runT_guard, goT_val, goT_new, goT_store, goTH_true, goTH_false, evO, keys, Option.toList_some, Option.toList_none, nzL_nil, nzL_cons, nz_k, nz_sl, nz_nil, nz_agg, startL, evC, evV, goE_val, goE_new, goE_store, goH_true, goH_false, goG_val, lk_cons, lk_nil, lk_func, lk_int, lk_bool, lk_string, lk_slice, lk_agg, look_mk, St.effOf, eff, effCall, effBinC, isConst, effBin, effUn, effConv, effPick, effNil, effFold, fold1, effLoad, effStore, effFieldAddr, effField, fieldOf, sliceOf, effIndexAddr, effIndex, effLen, effExtract, effSlice, dats, bnd, effBuild, placesOf, effBuildSlice, effMakeSlice, effAppend, srcOf, fillA, chunk, seg, toD, toDs, put, eqAV, fieldsEq, leafEq, strip, unw, allB, selP_or, selP_and, tis, TyD.agg, AV.cells, AV.cell, allCell, vInt, vBool, vStr, subL_nil, subL_cons, upIds, AV.ids, AV.ids.idsL, AObj.ids, drops, Hp.get_cons, get_nil, retF, resL, one, fz, fz.fzL, List.map_cons, List.map_nil, List.nil_append, List.append_nil, List.cons_append, List.all_cons, List.all_nil, List.length_cons, List.length_nil, List.getElem?_cons_zero, List.getElem?_cons_succ, List.getD_cons_zero, List.getD_cons_succ, List.take_succ_cons, List.take_zero, List.drop_succ_cons, List.drop_zero, List.take_nil, List.drop_nil, List.contains_cons, List.contains_nil, Option.getD_some, Option.getD_none, Option.map_some, Option.map_none, if_true, if_false, true_and, and_true, and_self, or_self, or_false, false_or, false_and, and_false, reduceCtorEq, sel_and, sel_or, decide_eq_true_eq, Bool.and_eq_true, Bool.or_eq_true, Bool.and_true, Bool.true_and, Bool.or_false, Bool.false_or, Bool.true_or, Bool.or_true, Bool.not_true, Bool.not_false, Bool.false_eq_true, implies_true, not_false_eq_true, Nat.reduceLT, Nat.reduceEqDiff, Nat.reduceAdd, Nat.reduceMul, Nat.reduceMod, Nat.reduceLeDiff, Nat.reduceBEq, Nat.zero_add, Nat.add_zero, reduceIte, ↓reduceIte, List.not_mem_nil]
 have hcond : ((((l.length : Int) < 2 ∨ (l.getD 0 0 != 34) = true) ∨ (ansN 1 (Jlex.textLen (l.drop 1)) != (l.length : Int)) = true) ↔ (l.length < 2 ∨ l.getD 0 0 ≠ 34 ∨ Jlex.textLen (l.drop 1) ≠ some (l.length - 1))) := by
  have h3 : (ansN 1 (Jlex.textLen (l.drop 1)) != (l.length : Int)) = true ↔ Jlex.textLen (l.drop 1) ≠ some (l.length - 1) ∨ l.length < 1 := by
   rw [bne_iff_ne]
   rcases Jlex.textLen (l.drop 1) with _ | k
   ·simp only [ansN]
    exact ⟨fun _ => .inl (by simp), fun _ => by omega⟩
   ·simp only [ansN, ne_eq, Option.some.injEq]
    omega
  rw [h3, bne_iff_ne]
  constructor
  ·rintro ((h | h) | (h | h))
   ·exact .inl (by omega)
   ·exact .inr (.inl h)
   ·exact .inr (.inr h)
   ·exact .inl (by omega)
  ·rintro (h | h | h)
   ·exact .inl (.inl (by omega))
   ·exact .inl (.inr h)
   ·exact .inr (.inl h)
 refine ⟨fun h => by simp only [Bool.not_eq_true', decide_eq_false_iff_not] at h; omega, fun h => ⟨hb, hl, by
  by_cases h2 : (l.length : Int) < 2
  ·rw [if_pos h2] at h; exact absurd h (by decide)
  ·omega⟩, ?_⟩
 by_cases q : (((l.length : Int) < 2 ∨ (l.getD 0 0 != 34) = true) ∨ (ansN 1 (Jlex.textLen (l.drop 1)) != (l.length : Int)) = true)
 ·rw [if_pos q]
  have : juF l = ([], false) := by unfold juF; rw [if_pos (hcond.1 q)]
  rw [this]
  exact Sub.tup ⟨.inr ⟨rfl, 1, rfl⟩, .inl rfl, trivial⟩
 rw [if_neg q]
 have q2 := fun h => q (hcond.2 h)
 refine ⟨⟨hb, by omega⟩, ?_⟩
 cases hv : (vals l.length l).2 with
 | false =>
  have : juF l = ([], false) := by unfold juF; rw [if_neg q2, if_pos hv]
  rw [this]
  simp only [Bool.not_false, if_true]
  exact Sub.tup ⟨.inr ⟨rfl, 1, rfl⟩, .inl rfl, trivial⟩
 | true =>
 have hj : juF l = (juV l.length (l.drop 1), true) := by unfold juF; rw [if_neg q2, if_neg (by rw [hv]; decide)]
 rw [hj]
 simp only [Bool.not_true, Bool.false_eq_true, if_false, Bool.true_eq_false]
 have ht1 : Jlex.textLen (l.drop 1) = some (l.length - 1) := by
  by_cases h : Jlex.textLen (l.drop 1) = some (l.length - 1)
  ·exact h
  ·exact absurd (.inr (.inr h)) q2
 have hl2 : 2 ≤ l.length := by
  by_cases h : l.length < 2
  ·exact absurd (.inl h) q2
  ·omega
 generalize hR : juV l.length (l.drop 1) = R
 refine wpc_loop (fun p : List Int × Nat => ⟨117, [100], [(0, .d (bytesD l)), (6, .row 100 p.1.length), (7, vInt .i64 p.2)], [(100, some (.row 3 1 (p.1.map (iD .i64))))]⟩)
  (fun p => 1 ≤ p.2 ∧ p.2 < l.length ∧ p.1.length ≤ 2 * p.2 ∧ Jlex.textLen (l.drop p.2) = some (l.length - p.2) ∧ ∀ f, l.length - p.2 ≤ f → p.1 ++ juV f (l.drop p.2) = R) (fun p => l.length - p.2) ([], 1) ⟨Nat.le_refl _, by show 1 < l.length; omega, Nat.zero_le _, ht1, fun f hf => by rw [List.nil_append, ← hR]; exact juV_fuel _ _ _ (fun x hx => hb x (List.mem_of_mem_drop hx)) (by rw [List.length_drop]; exact hf) (by rw [List.length_drop]; omega)⟩ ?_ ?_
 ·refine Le.of id [100] ?_
  simp only [bytesD, List.length_nil, List.map_nil, Mt_tup, Mt_agg, Mt_fn, forall_eq, forall_eq_or_imp, ne_eq, List.all_cons, List.all_nil, pr, Nat.reduceLeDiff, slR_nil, slR_cons, hpR_nil, hpR_cells, hpR_row, idsR_nil, idsR_cons, mtE_v, mtE_sl, mtE_nil, mtE_refl, mtE_row, mtE_born, mtE_ptr, mtE_rp, mtE_agg, mtE_tup, mtE_fn, mtE_ep, MtL_nil, MtL_cons, Mt_v, Mt_sl, Mt_nil, Mt_refl, Mt_row, Mt_born, Mt_ptr, MtO_cells, MtO_row, liveIds, distinct, Dat.v.injEq, Dat.sl.injEq, Value.int.injEq, Value.bool.injEq, Value.string.injEq, lk_cons, lk_nil, subL_nil, subL_cons, upIds, AV.ids, AV.ids.idsL, AObj.ids, Hp.get_cons, get_nil, allCell, AV.cell, vInt, vBool, vStr, id, true_and, and_true, and_self, List.append_nil, List.nil_append, List.not_mem_nil, List.mem_cons, or_false, false_or, or_self, not_true_eq_false, not_false_eq_true, false_imp_iff, false_implies, List.map_nil, not_false_eq_true, List.contains_cons, List.contains_nil, Bool.or_false, Bool.false_or, Bool.true_or, Bool.or_true, Bool.and_true, Bool.true_and, implies_true, if_true, if_false, reduceCtorEq, Nat.reduceEqDiff, Nat.reduceBEq, Nat.reduceAdd, reduceIte, ↓reduceIte]
  rfl
 ·rintro ⟨o, k⟩ ⟨hk1, hk, ho, ht, hr⟩
  simp only [] at hk1 hk ho ht hr
  have e1 : IntKind.i64.wrap ((l.length : Int) - 1) = ((l.length - 1 : Nat) : Int) := by rw [w64 (by omega) (by omega)]; omega
  have f1 : IntKind.i64.wrap ((k : Int) + 1) = ((k + 1 : Nat) : Int) := by rw [w64 (by omega) (by omega)]; omega
  have f2 : IntKind.i64.wrap ((k : Int) + 2) = ((k + 2 : Nat) : Int) := by rw [w64 (by omega) (by omega)]; omega
  have f6 : IntKind.i64.wrap ((k : Int) + 6) = ((k + 6 : Nat) : Int) := by rw [w64 (by omega) (by omega)]; omega
  by_cases h1 : k < l.length - 1
  ·obtain ⟨c, d, t, h⟩ : ∃ c d t, l.drop k = c :: d :: t := by
    have := congrArg List.length (rfl : l.drop k = l.drop k)
    rcases h : l.drop k with _ | ⟨c, _ | ⟨d, t⟩⟩
    ·have := congrArg List.length h; simp only [List.length_drop, List.length_nil] at this; omega
    ·have := congrArg List.length h; simp only [List.length_drop, List.length_cons, List.length_nil] at this; omega
    ·exact ⟨c, d, t, rfl⟩
   have hc := (getD_drop h).1
   have hd := (getD_drop (drop_tail h)).1
   have hlt := congrArg List.length h
   simp only [List.length_drop, List.length_cons] at hlt
   have hbd : Bytes (c :: d :: t) := fun x hx => hb x ((List.drop_sublist k l).subset (by rw [h]; exact hx))
   have hnx : Utf.nx l k = Utf.dec (c :: d :: t) := by rw [Utf.nx, if_neg (by omega), Int.toNat_natCast, h]
   simp only [bytesD, intsD, getD_iD, iD, num_iD, nz1, hc, hd, e1, f1, f2, f6, hnx, G_ju_at, calmE, F_txj, F_val, F_Next, F_pair, F_hexd, Int.toNat_natCast, AV.flat, AV.flat.flatL, List.length_map, Int.reduceLE, Int.reduceLT, Int.reduceGT, Int.reduceGE, Int.reduceBEq, Int.reduceBNe, Int.reduceEq, Int.reduceToNat, Int.reduceSub, Int.reduceAdd, Int.reduceMul, Int.reducePow, Int.reduceNeg, goTG_val, goTG_new, goTG_up, goTG_none, goG_none, goG_new, goG_up, ne_eq, evK, evH, retHF, DRun_mk, runT_nil, runT_none, runT_guard, goT_val, goT_new, goT_store, goTH_true, goTH_false, evO, keys, Option.toList_some, Option.toList_none, nzL_nil, nzL_cons, nz_k, nz_sl, nz_nil, nz_agg, startL, evC, evV, goE_val, goE_new, goE_store, goH_true, goH_false, goG_val, lk_cons, lk_nil, lk_func, lk_int, lk_bool, lk_string, lk_slice, lk_agg, look_mk, St.effOf, eff, effCall, effBinC, isConst, effBin, effUn, effConv, effPick, effNil, effFold, fold1, effLoad, effStore, effFieldAddr, effField, fieldOf, sliceOf, effIndexAddr, effIndex, effLen, effExtract, effSlice, dats, bnd, effBuild, placesOf, effBuildSlice, effMakeSlice, effAppend, srcOf, fillA, chunk, seg, toD, toDs, put, eqAV, fieldsEq, leafEq, strip, unw, allB, selP_or, selP_and, tis, TyD.agg, AV.cells, AV.cell, allCell, vInt, vBool, vStr, subL_nil, subL_cons, upIds, AV.ids, AV.ids.idsL, AObj.ids, drops, Hp.get_cons, get_nil, retF, resL, one, fz, fz.fzL, List.map_cons, List.map_nil, List.nil_append, List.append_nil, List.cons_append, List.all_cons, List.all_nil, List.length_cons, List.length_nil, List.getElem?_cons_zero, List.getElem?_cons_succ, List.getD_cons_zero, List.getD_cons_succ, List.take_succ_cons, List.take_zero, List.drop_succ_cons, List.drop_zero, List.take_nil, List.drop_nil, List.contains_cons, List.contains_nil, Option.getD_some, Option.getD_none, Option.map_some, Option.map_none, if_true, if_false, true_and, and_true, and_self, or_self, or_false, false_or, false_and, and_false, reduceCtorEq, sel_and, sel_or, decide_eq_true_eq, Bool.and_eq_true, Bool.or_eq_true, Bool.and_true, Bool.true_and, Bool.or_false, Bool.false_or, Bool.true_or, Bool.or_true, Bool.not_true, Bool.not_false, Bool.false_eq_true, implies_true, not_false_eq_true, Nat.reduceLT, Nat.reduceEqDiff, Nat.reduceAdd, Nat.reduceMul, Nat.reduceMod, Nat.reduceLeDiff, Nat.reduceBEq, Nat.zero_add, Nat.add_zero, reduceIte, ↓reduceIte, List.not_mem_nil]
   rw [if_pos (by omega)]
   refine ⟨by omega, ?_⟩
   have hro := juV_cons (l.length) c d t
   by_cases c1 : c = 92
   ·rw [if_neg (by rw [c1]; decide)]
    refine ⟨by omega, ?_⟩
    have hbt : Bytes (d :: t) := fun x hx => hbd x (List.mem_cons_of_mem _ hx)
    rw [h, textLen_step hbt, if_neg (by omega), if_neg (by omega), if_pos c1] at ht
    rw [if_pos c1] at hro
    rcases hesc : escN (d :: t) with _ | m
    ·rw [hesc] at ht; cases ht
    rw [hesc] at ht
    obtain ⟨m2, ht2, ht3⟩ := Jlex.map_some ht
    have hm := escN_le hesc
    have hpos := (Jlex.textLen_le _ _ (Nat.le_refl _) ht2)
    have hdr : (c :: d :: t).drop m = l.drop (k + m) := by rw [← h, List.drop_drop]
    rw [hdr, List.length_drop] at hpos
    rw [hdr] at ht2
    by_cases c2 : d = 117
    ·rw [if_pos (by rw [c2]; rfl)]
     rw [if_pos c2] at hro
     have hm6 : m = 6 ∧ hex4B t = true := by
      rw [escN_cons, c2, if_neg (by decide)] at hesc
      split at hesc
      ·rename_i q
       cases hesc
       exact ⟨rfl, q.2⟩
      ·cases hesc
     obtain ⟨rfl, h4B⟩ := hm6
     have hdt : l.drop (k + 2) = t := drop_tail (drop_tail h)
     have hall := (hex4_all hb (k + 2)).1 (by rw [hdt]; exact h4B)
     have hgt : ∀ i, l.getD (k + 2 + i) 0 = t.getD i 0 := fun i => by rw [← hdt, List.getD_eq_getElem?_getD, List.getD_eq_getElem?_getD, List.getElem?_drop]
     simp only [hgt] at hall
     refine wpc_loop (fun j : Nat => ⟨117, [100], [(0, .d (bytesD l)), (6, .row 100 o.length), (7, vInt .i64 k), (11, vInt .i64 (hexP t j)), (12, vInt .i64 ((k + 2 + j : Nat) : Int))], [(100, some (.row 3 1 (o.map (iD .i64))))]⟩) (fun j => j ≤ 4) (fun j => 4 - j) 0 (by omega) ?_ ?_
     ·refine Le.of id [] ?_
      simp only [bytesD, hexP, Mt_tup, Mt_agg, Mt_fn, forall_eq, forall_eq_or_imp, ne_eq, List.all_cons, List.all_nil, pr, Nat.reduceLeDiff, slR_nil, slR_cons, hpR_nil, hpR_cells, hpR_row, idsR_nil, idsR_cons, mtE_v, mtE_sl, mtE_nil, mtE_refl, mtE_row, mtE_born, mtE_ptr, mtE_rp, mtE_agg, mtE_tup, mtE_fn, mtE_ep, MtL_nil, MtL_cons, Mt_v, Mt_sl, Mt_nil, Mt_refl, Mt_row, Mt_born, Mt_ptr, MtO_cells, MtO_row, liveIds, distinct, Dat.v.injEq, Dat.sl.injEq, Value.int.injEq, Value.bool.injEq, Value.string.injEq, lk_cons, lk_nil, subL_nil, subL_cons, upIds, AV.ids, AV.ids.idsL, AObj.ids, Hp.get_cons, get_nil, allCell, AV.cell, vInt, vBool, vStr, id, true_and, and_true, and_self, List.append_nil, List.nil_append, List.not_mem_nil, List.mem_cons, or_false, false_or, or_self, not_true_eq_false, not_false_eq_true, false_imp_iff, false_implies, List.map_nil, not_false_eq_true, List.contains_cons, List.contains_nil, Bool.or_false, Bool.false_or, Bool.true_or, Bool.or_true, Bool.and_true, Bool.true_and, implies_true, if_true, if_false, reduceCtorEq, Nat.reduceEqDiff, Nat.reduceBEq, Nat.reduceAdd, reduceIte, ↓reduceIte]
      first | done | exact ⟨rfl, rfl⟩ | rfl
     ·intro j hj
      have g1 : IntKind.i64.wrap (((k + 2 + j : Nat) : Int) + 1) = ((k + 2 + j + 1 : Nat) : Int) := by rw [w64 (by omega) (by omega)]; omega
      simp only [bytesD, intsD, getD_iD, iD, num_iD, nz1, hgt, f1, f2, f6, g1, G_ju_at, calmE, F_txj, F_val, F_Next, F_pair, F_hexd, Int.toNat_natCast, AV.flat, AV.flat.flatL, List.length_map, Int.reduceLE, Int.reduceLT, Int.reduceGT, Int.reduceGE, Int.reduceBEq, Int.reduceBNe, Int.reduceEq, Int.reduceToNat, Int.reduceSub, Int.reduceAdd, Int.reduceMul, Int.reducePow, Int.reduceNeg, goTG_val, goTG_new, goTG_up, goTG_none, goG_none, goG_new, goG_up, ne_eq, evK, evH, retHF, DRun_mk, runT_nil, runT_none, runT_guard, goT_val, goT_new, goT_store, goTH_true, goTH_false, evO, keys, Option.toList_some, Option.toList_none, nzL_nil, nzL_cons, nz_k, nz_sl, nz_nil, nz_agg, startL, evC, evV, goE_val, goE_new, goE_store, goH_true, goH_false, goG_val, lk_cons, lk_nil, lk_func, lk_int, lk_bool, lk_string, lk_slice, lk_agg, look_mk, St.effOf, eff, effCall, effBinC, isConst, effBin, effUn, effConv, effPick, effNil, effFold, fold1, effLoad, effStore, effFieldAddr, effField, fieldOf, sliceOf, effIndexAddr, effIndex, effLen, effExtract, effSlice, dats, bnd, effBuild, placesOf, effBuildSlice, effMakeSlice, effAppend, srcOf, fillA, chunk, seg, toD, toDs, put, eqAV, fieldsEq, leafEq, strip, unw, allB, selP_or, selP_and, tis, TyD.agg, AV.cells, AV.cell, allCell, vInt, vBool, vStr, subL_nil, subL_cons, upIds, AV.ids, AV.ids.idsL, AObj.ids, drops, Hp.get_cons, get_nil, retF, resL, one, fz, fz.fzL, List.map_cons, List.map_nil, List.nil_append, List.append_nil, List.cons_append, List.all_cons, List.all_nil, List.length_cons, List.length_nil, List.getElem?_cons_zero, List.getElem?_cons_succ, List.getD_cons_zero, List.getD_cons_succ, List.take_succ_cons, List.take_zero, List.drop_succ_cons, List.drop_zero, List.take_nil, List.drop_nil, List.contains_cons, List.contains_nil, Option.getD_some, Option.getD_none, Option.map_some, Option.map_none, if_true, if_false, true_and, and_true, and_self, or_self, or_false, false_or, false_and, and_false, reduceCtorEq, sel_and, sel_or, decide_eq_true_eq, Bool.and_eq_true, Bool.or_eq_true, Bool.and_true, Bool.true_and, Bool.or_false, Bool.false_or, Bool.true_or, Bool.or_true, Bool.not_true, Bool.not_false, Bool.false_eq_true, implies_true, not_false_eq_true, Nat.reduceLT, Nat.reduceEqDiff, Nat.reduceAdd, Nat.reduceMul, Nat.reduceMod, Nat.reduceLeDiff, Nat.reduceBEq, Nat.zero_add, Nat.add_zero, reduceIte, ↓reduceIte, List.not_mem_nil]
      by_cases q : j < 4
      ·rw [if_pos (by omega)]
       obtain ⟨p1, p2⟩ := hexP_rng (t := t) (j := j) (by omega) (fun i hi => (hall i (by omega)).2)
       have p3 : hexP t j < 4096 := Int.lt_of_lt_of_le p2 (by
        obtain rfl | rfl | rfl | rfl : j = 0 ∨ j = 1 ∨ j = 2 ∨ j = 3 := by omega
        all_goals decide)
       have p4 := Jstr.hexv_lt (t.getD j 0)
       have p5 := (hall j q).2
       have e16 : (2 : Int) ^ min 4 IntKind.i64.bits = 16 := by decide
       have hbj : 0 ≤ t.getD j 0 ∧ t.getD j 0 < 256 := by
        rw [← hgt, List.getD_eq_getElem?_getD, List.getElem?_eq_getElem (hall j q).1]
        exact hb _ (List.getElem_mem _)
       refine ⟨by have := (hall j q).1; omega, hbj, j + 1, by omega, by omega, Le.of id [] ?_⟩
       simp only [bytesD, hexP, e16, Mt_tup, Mt_agg, Mt_fn, forall_eq, forall_eq_or_imp, ne_eq, List.all_cons, List.all_nil, pr, Nat.reduceLeDiff, slR_nil, slR_cons, hpR_nil, hpR_cells, hpR_row, idsR_nil, idsR_cons, mtE_v, mtE_sl, mtE_nil, mtE_refl, mtE_row, mtE_born, mtE_ptr, mtE_rp, mtE_agg, mtE_tup, mtE_fn, mtE_ep, MtL_nil, MtL_cons, Mt_v, Mt_sl, Mt_nil, Mt_refl, Mt_row, Mt_born, Mt_ptr, MtO_cells, MtO_row, liveIds, distinct, Dat.v.injEq, Dat.sl.injEq, Value.int.injEq, Value.bool.injEq, Value.string.injEq, lk_cons, lk_nil, subL_nil, subL_cons, upIds, AV.ids, AV.ids.idsL, AObj.ids, Hp.get_cons, get_nil, allCell, AV.cell, vInt, vBool, vStr, id, true_and, and_true, and_self, List.append_nil, List.nil_append, List.not_mem_nil, List.mem_cons, or_false, false_or, or_self, not_true_eq_false, not_false_eq_true, false_imp_iff, false_implies, List.map_nil, not_false_eq_true, List.contains_cons, List.contains_nil, Bool.or_false, Bool.false_or, Bool.true_or, Bool.or_true, Bool.and_true, Bool.true_and, implies_true, if_true, if_false, reduceCtorEq, Nat.reduceEqDiff, Nat.reduceBEq, Nat.reduceAdd, reduceIte, ↓reduceIte]
       rw [w64 (n := hexP t j * 16) (by omega) (by omega), bits_join .i64 31 (by decide) wraps_i64 4 (hexP t j * 16) (Jstr.hexv (t.getD j 0)) (by omega) (by omega) (by omega) p5 (by omega) (by omega)]
       first | done | exact ⟨rfl, rfl⟩ | rfl
      ·rw [if_neg (by omega)]
       have hj4 : j = 4 := by omega
       subst hj4
       rw [hexP_4 (by have := (hall 3 (by omega)).1; omega)]
       refine ⟨by omega, (o ++ [hexQ t], k + 6), by simp only []; omega, ⟨by simp only []; omega, by simp only []; omega, by simp only [List.length_append, List.length_cons, List.length_nil]; omega, ?_, fun f hf => ?_⟩, Le.of (fun _ => 86) [] ?_⟩
       ·simp only []; rw [ht2]; exact congrArg some (by omega)
       ·simp only [] at hf ⊢
        have h3 := hr (l.length + 1) (by omega)
        rw [h, hro, juV_fuel l.length f _ (fun x hx => hbd x (by simp [List.mem_of_mem_drop hx])) (by rw [List.length_drop]; omega) (by rw [List.length_drop]; omega)] at h3
        rw [List.append_assoc, ← h3]
        rw [show l.drop (k + 6) = t.drop 4 by rw [← hdt, List.drop_drop]]; rfl
       ·simp only [bytesD, List.map_append, List.map_cons, List.map_nil, List.length_append, List.length_map, List.length_cons, List.length_nil, iD, Mt_tup, Mt_agg, Mt_fn, forall_eq, forall_eq_or_imp, ne_eq, List.all_cons, List.all_nil, pr, Nat.reduceLeDiff, slR_nil, slR_cons, hpR_nil, hpR_cells, hpR_row, idsR_nil, idsR_cons, mtE_v, mtE_sl, mtE_nil, mtE_refl, mtE_row, mtE_born, mtE_ptr, mtE_rp, mtE_agg, mtE_tup, mtE_fn, mtE_ep, MtL_nil, MtL_cons, Mt_v, Mt_sl, Mt_nil, Mt_refl, Mt_row, Mt_born, Mt_ptr, MtO_cells, MtO_row, liveIds, distinct, Dat.v.injEq, Dat.sl.injEq, Value.int.injEq, Value.bool.injEq, Value.string.injEq, lk_cons, lk_nil, subL_nil, subL_cons, upIds, AV.ids, AV.ids.idsL, AObj.ids, Hp.get_cons, get_nil, allCell, AV.cell, vInt, vBool, vStr, id, true_and, and_true, and_self, List.append_nil, List.nil_append, List.not_mem_nil, List.mem_cons, or_false, false_or, or_self, not_true_eq_false, not_false_eq_true, false_imp_iff, false_implies, List.map_nil, not_false_eq_true, List.contains_cons, List.contains_nil, Bool.or_false, Bool.false_or, Bool.true_or, Bool.or_true, Bool.and_true, Bool.true_and, implies_true, if_true, if_false, reduceCtorEq, Nat.reduceEqDiff, Nat.reduceBEq, Nat.reduceAdd, reduceIte, ↓reduceIte]
        first | done | rfl
    ·rw [if_neg (by rw [beq_iff_eq]; exact c2)]
     rw [if_neg c2] at hro
     have hm2 : m = 2 := by
      rw [escN_cons] at hesc
      split at hesc
      ·cases hesc; rfl
      ·rw [if_neg (fun h => c2 h.1)] at hesc; cases hesc
     subst hm2
     have hdt : l.drop (k + 2) = t := drop_tail (drop_tail h)
     have hdb := hbt d List.mem_cons_self
     refine ⟨by omega, by omega, ?_⟩
     simp only [beq_iff_eq]
     have hev : Jstr.escv d = if d = 98 then 8 else if d = 102 then 12 else if d = 110 then 10 else if d = 114 then 13 else if d = 116 then 9 else d := rfl
     by_cases z98 : d = 98
     ·rw [if_pos z98]
      rw [if_pos z98] at hev
      rw [hev] at hro
      refine ⟨by omega, (o ++ [8], k + 2), by simp only []; omega, ⟨by simp only []; omega, by simp only []; omega, by simp only [List.length_append, List.length_cons, List.length_nil]; omega, ?_, fun f hf => ?_⟩, Le.of (fun _ => 113) [] ?_⟩
      ·simp only []; rw [ht2]; exact congrArg some (by omega)
      ·simp only [] at hf ⊢
       have h3 := hr (l.length + 1) (by omega)
       rw [h, hro, juV_fuel l.length f _ (fun x hx => hbd x (by simp [hx])) (by omega) (by omega)] at h3
       rw [List.append_assoc, ← h3]
       rw [hdt]; rfl
      ·simp only [bytesD, List.map_append, List.map_cons, List.map_nil, List.length_append, List.length_map, List.length_cons, List.length_nil, iD, Mt_tup, Mt_agg, Mt_fn, forall_eq, forall_eq_or_imp, ne_eq, List.all_cons, List.all_nil, pr, Nat.reduceLeDiff, slR_nil, slR_cons, hpR_nil, hpR_cells, hpR_row, idsR_nil, idsR_cons, mtE_v, mtE_sl, mtE_nil, mtE_refl, mtE_row, mtE_born, mtE_ptr, mtE_rp, mtE_agg, mtE_tup, mtE_fn, mtE_ep, MtL_nil, MtL_cons, Mt_v, Mt_sl, Mt_nil, Mt_refl, Mt_row, Mt_born, Mt_ptr, MtO_cells, MtO_row, liveIds, distinct, Dat.v.injEq, Dat.sl.injEq, Value.int.injEq, Value.bool.injEq, Value.string.injEq, lk_cons, lk_nil, subL_nil, subL_cons, upIds, AV.ids, AV.ids.idsL, AObj.ids, Hp.get_cons, get_nil, allCell, AV.cell, vInt, vBool, vStr, id, true_and, and_true, and_self, List.append_nil, List.nil_append, List.not_mem_nil, List.mem_cons, or_false, false_or, or_self, not_true_eq_false, not_false_eq_true, false_imp_iff, false_implies, List.map_nil, not_false_eq_true, List.contains_cons, List.contains_nil, Bool.or_false, Bool.false_or, Bool.true_or, Bool.or_true, Bool.and_true, Bool.true_and, implies_true, if_true, if_false, reduceCtorEq, Nat.reduceEqDiff, Nat.reduceBEq, Nat.reduceAdd, reduceIte, ↓reduceIte]
       first | done | rfl
     rw [if_neg z98]
     rw [if_neg z98] at hev
     by_cases z102 : d = 102
     ·rw [if_pos z102]
      rw [if_pos z102] at hev
      rw [hev] at hro
      refine ⟨by omega, (o ++ [12], k + 2), by simp only []; omega, ⟨by simp only []; omega, by simp only []; omega, by simp only [List.length_append, List.length_cons, List.length_nil]; omega, ?_, fun f hf => ?_⟩, Le.of (fun _ => 113) [] ?_⟩
      ·simp only []; rw [ht2]; exact congrArg some (by omega)
      ·simp only [] at hf ⊢
       have h3 := hr (l.length + 1) (by omega)
       rw [h, hro, juV_fuel l.length f _ (fun x hx => hbd x (by simp [hx])) (by omega) (by omega)] at h3
       rw [List.append_assoc, ← h3]
       rw [hdt]; rfl
      ·simp only [bytesD, List.map_append, List.map_cons, List.map_nil, List.length_append, List.length_map, List.length_cons, List.length_nil, iD, Mt_tup, Mt_agg, Mt_fn, forall_eq, forall_eq_or_imp, ne_eq, List.all_cons, List.all_nil, pr, Nat.reduceLeDiff, slR_nil, slR_cons, hpR_nil, hpR_cells, hpR_row, idsR_nil, idsR_cons, mtE_v, mtE_sl, mtE_nil, mtE_refl, mtE_row, mtE_born, mtE_ptr, mtE_rp, mtE_agg, mtE_tup, mtE_fn, mtE_ep, MtL_nil, MtL_cons, Mt_v, Mt_sl, Mt_nil, Mt_refl, Mt_row, Mt_born, Mt_ptr, MtO_cells, MtO_row, liveIds, distinct, Dat.v.injEq, Dat.sl.injEq, Value.int.injEq, Value.bool.injEq, Value.string.injEq, lk_cons, lk_nil, subL_nil, subL_cons, upIds, AV.ids, AV.ids.idsL, AObj.ids, Hp.get_cons, get_nil, allCell, AV.cell, vInt, vBool, vStr, id, true_and, and_true, and_self, List.append_nil, List.nil_append, List.not_mem_nil, List.mem_cons, or_false, false_or, or_self, not_true_eq_false, not_false_eq_true, false_imp_iff, false_implies, List.map_nil, not_false_eq_true, List.contains_cons, List.contains_nil, Bool.or_false, Bool.false_or, Bool.true_or, Bool.or_true, Bool.and_true, Bool.true_and, implies_true, if_true, if_false, reduceCtorEq, Nat.reduceEqDiff, Nat.reduceBEq, Nat.reduceAdd, reduceIte, ↓reduceIte]
       first | done | rfl
     rw [if_neg z102]
     rw [if_neg z102] at hev
     by_cases z110 : d = 110
     ·rw [if_pos z110]
      rw [if_pos z110] at hev
      rw [hev] at hro
      refine ⟨by omega, (o ++ [10], k + 2), by simp only []; omega, ⟨by simp only []; omega, by simp only []; omega, by simp only [List.length_append, List.length_cons, List.length_nil]; omega, ?_, fun f hf => ?_⟩, Le.of (fun _ => 113) [] ?_⟩
      ·simp only []; rw [ht2]; exact congrArg some (by omega)
      ·simp only [] at hf ⊢
       have h3 := hr (l.length + 1) (by omega)
       rw [h, hro, juV_fuel l.length f _ (fun x hx => hbd x (by simp [hx])) (by omega) (by omega)] at h3
       rw [List.append_assoc, ← h3]
       rw [hdt]; rfl
      ·simp only [bytesD, List.map_append, List.map_cons, List.map_nil, List.length_append, List.length_map, List.length_cons, List.length_nil, iD, Mt_tup, Mt_agg, Mt_fn, forall_eq, forall_eq_or_imp, ne_eq, List.all_cons, List.all_nil, pr, Nat.reduceLeDiff, slR_nil, slR_cons, hpR_nil, hpR_cells, hpR_row, idsR_nil, idsR_cons, mtE_v, mtE_sl, mtE_nil, mtE_refl, mtE_row, mtE_born, mtE_ptr, mtE_rp, mtE_agg, mtE_tup, mtE_fn, mtE_ep, MtL_nil, MtL_cons, Mt_v, Mt_sl, Mt_nil, Mt_refl, Mt_row, Mt_born, Mt_ptr, MtO_cells, MtO_row, liveIds, distinct, Dat.v.injEq, Dat.sl.injEq, Value.int.injEq, Value.bool.injEq, Value.string.injEq, lk_cons, lk_nil, subL_nil, subL_cons, upIds, AV.ids, AV.ids.idsL, AObj.ids, Hp.get_cons, get_nil, allCell, AV.cell, vInt, vBool, vStr, id, true_and, and_true, and_self, List.append_nil, List.nil_append, List.not_mem_nil, List.mem_cons, or_false, false_or, or_self, not_true_eq_false, not_false_eq_true, false_imp_iff, false_implies, List.map_nil, not_false_eq_true, List.contains_cons, List.contains_nil, Bool.or_false, Bool.false_or, Bool.true_or, Bool.or_true, Bool.and_true, Bool.true_and, implies_true, if_true, if_false, reduceCtorEq, Nat.reduceEqDiff, Nat.reduceBEq, Nat.reduceAdd, reduceIte, ↓reduceIte]
       first | done | rfl
     rw [if_neg z110]
     rw [if_neg z110] at hev
     by_cases z114 : d = 114
     ·rw [if_pos z114]
      rw [if_pos z114] at hev
      rw [hev] at hro
      refine ⟨by omega, (o ++ [13], k + 2), by simp only []; omega, ⟨by simp only []; omega, by simp only []; omega, by simp only [List.length_append, List.length_cons, List.length_nil]; omega, ?_, fun f hf => ?_⟩, Le.of (fun _ => 113) [] ?_⟩
      ·simp only []; rw [ht2]; exact congrArg some (by omega)
      ·simp only [] at hf ⊢
       have h3 := hr (l.length + 1) (by omega)
       rw [h, hro, juV_fuel l.length f _ (fun x hx => hbd x (by simp [hx])) (by omega) (by omega)] at h3
       rw [List.append_assoc, ← h3]
       rw [hdt]; rfl
      ·simp only [bytesD, List.map_append, List.map_cons, List.map_nil, List.length_append, List.length_map, List.length_cons, List.length_nil, iD, Mt_tup, Mt_agg, Mt_fn, forall_eq, forall_eq_or_imp, ne_eq, List.all_cons, List.all_nil, pr, Nat.reduceLeDiff, slR_nil, slR_cons, hpR_nil, hpR_cells, hpR_row, idsR_nil, idsR_cons, mtE_v, mtE_sl, mtE_nil, mtE_refl, mtE_row, mtE_born, mtE_ptr, mtE_rp, mtE_agg, mtE_tup, mtE_fn, mtE_ep, MtL_nil, MtL_cons, Mt_v, Mt_sl, Mt_nil, Mt_refl, Mt_row, Mt_born, Mt_ptr, MtO_cells, MtO_row, liveIds, distinct, Dat.v.injEq, Dat.sl.injEq, Value.int.injEq, Value.bool.injEq, Value.string.injEq, lk_cons, lk_nil, subL_nil, subL_cons, upIds, AV.ids, AV.ids.idsL, AObj.ids, Hp.get_cons, get_nil, allCell, AV.cell, vInt, vBool, vStr, id, true_and, and_true, and_self, List.append_nil, List.nil_append, List.not_mem_nil, List.mem_cons, or_false, false_or, or_self, not_true_eq_false, not_false_eq_true, false_imp_iff, false_implies, List.map_nil, not_false_eq_true, List.contains_cons, List.contains_nil, Bool.or_false, Bool.false_or, Bool.true_or, Bool.or_true, Bool.and_true, Bool.true_and, implies_true, if_true, if_false, reduceCtorEq, Nat.reduceEqDiff, Nat.reduceBEq, Nat.reduceAdd, reduceIte, ↓reduceIte]
       first | done | rfl
     rw [if_neg z114]
     rw [if_neg z114] at hev
     by_cases z116 : d = 116
     ·rw [if_pos z116]
      rw [if_pos z116] at hev
      rw [hev] at hro
      refine ⟨by omega, (o ++ [9], k + 2), by simp only []; omega, ⟨by simp only []; omega, by simp only []; omega, by simp only [List.length_append, List.length_cons, List.length_nil]; omega, ?_, fun f hf => ?_⟩, Le.of (fun _ => 113) [] ?_⟩
      ·simp only []; rw [ht2]; exact congrArg some (by omega)
      ·simp only [] at hf ⊢
       have h3 := hr (l.length + 1) (by omega)
       rw [h, hro, juV_fuel l.length f _ (fun x hx => hbd x (by simp [hx])) (by omega) (by omega)] at h3
       rw [List.append_assoc, ← h3]
       rw [hdt]; rfl
      ·simp only [bytesD, List.map_append, List.map_cons, List.map_nil, List.length_append, List.length_map, List.length_cons, List.length_nil, iD, Mt_tup, Mt_agg, Mt_fn, forall_eq, forall_eq_or_imp, ne_eq, List.all_cons, List.all_nil, pr, Nat.reduceLeDiff, slR_nil, slR_cons, hpR_nil, hpR_cells, hpR_row, idsR_nil, idsR_cons, mtE_v, mtE_sl, mtE_nil, mtE_refl, mtE_row, mtE_born, mtE_ptr, mtE_rp, mtE_agg, mtE_tup, mtE_fn, mtE_ep, MtL_nil, MtL_cons, Mt_v, Mt_sl, Mt_nil, Mt_refl, Mt_row, Mt_born, Mt_ptr, MtO_cells, MtO_row, liveIds, distinct, Dat.v.injEq, Dat.sl.injEq, Value.int.injEq, Value.bool.injEq, Value.string.injEq, lk_cons, lk_nil, subL_nil, subL_cons, upIds, AV.ids, AV.ids.idsL, AObj.ids, Hp.get_cons, get_nil, allCell, AV.cell, vInt, vBool, vStr, id, true_and, and_true, and_self, List.append_nil, List.nil_append, List.not_mem_nil, List.mem_cons, or_false, false_or, or_self, not_true_eq_false, not_false_eq_true, false_imp_iff, false_implies, List.map_nil, not_false_eq_true, List.contains_cons, List.contains_nil, Bool.or_false, Bool.false_or, Bool.true_or, Bool.or_true, Bool.and_true, Bool.true_and, implies_true, if_true, if_false, reduceCtorEq, Nat.reduceEqDiff, Nat.reduceBEq, Nat.reduceAdd, reduceIte, ↓reduceIte]
       first | done | rfl
     rw [if_neg z116]
     rw [if_neg z116] at hev
     rw [hev] at hro
     rw [w64 (n := d) (by omega) (by omega)]
     refine ⟨by omega, (o ++ [d], k + 2), by simp only []; omega, ⟨by simp only []; omega, by simp only []; omega, by simp only [List.length_append, List.length_cons, List.length_nil]; omega, ?_, fun f hf => ?_⟩, Le.of (fun _ => 113) [] ?_⟩
     ·simp only []; rw [ht2]; exact congrArg some (by omega)
     ·simp only [] at hf ⊢
      have h3 := hr (l.length + 1) (by omega)
      rw [h, hro, juV_fuel l.length f _ (fun x hx => hbd x (by simp [hx])) (by omega) (by omega)] at h3
      rw [List.append_assoc, ← h3]
      rw [hdt]; rfl
     ·simp only [bytesD, List.map_append, List.map_cons, List.map_nil, List.length_append, List.length_map, List.length_cons, List.length_nil, iD, Mt_tup, Mt_agg, Mt_fn, forall_eq, forall_eq_or_imp, ne_eq, List.all_cons, List.all_nil, pr, Nat.reduceLeDiff, slR_nil, slR_cons, hpR_nil, hpR_cells, hpR_row, idsR_nil, idsR_cons, mtE_v, mtE_sl, mtE_nil, mtE_refl, mtE_row, mtE_born, mtE_ptr, mtE_rp, mtE_agg, mtE_tup, mtE_fn, mtE_ep, MtL_nil, MtL_cons, Mt_v, Mt_sl, Mt_nil, Mt_refl, Mt_row, Mt_born, Mt_ptr, MtO_cells, MtO_row, liveIds, distinct, Dat.v.injEq, Dat.sl.injEq, Value.int.injEq, Value.bool.injEq, Value.string.injEq, lk_cons, lk_nil, subL_nil, subL_cons, upIds, AV.ids, AV.ids.idsL, AObj.ids, Hp.get_cons, get_nil, allCell, AV.cell, vInt, vBool, vStr, id, true_and, and_true, and_self, List.append_nil, List.nil_append, List.not_mem_nil, List.mem_cons, or_false, false_or, or_self, not_true_eq_false, not_false_eq_true, false_imp_iff, false_implies, List.map_nil, not_false_eq_true, List.contains_cons, List.contains_nil, Bool.or_false, Bool.false_or, Bool.true_or, Bool.or_true, Bool.and_true, Bool.true_and, implies_true, if_true, if_false, reduceCtorEq, Nat.reduceEqDiff, Nat.reduceBEq, Nat.reduceAdd, reduceIte, ↓reduceIte]
      first | done | rfl
   ·rw [if_pos (by rw [bne_iff_ne]; exact c1)]
    rw [if_neg c1] at hro
    rw [h] at ht
    have htl : l.length - k = (c :: d :: t).length := by simp only [List.length_cons]; omega
    rw [htl] at ht
    obtain ⟨s1, s2, s3⟩ := text_skip hbd c1 ht
    have hrng := dec_rng hbd (fun h => by cases h)
    have hdn := Utf.dec_len hbd (fun h => by cases h)
    obtain ⟨r, n, ok, hq⟩ : ∃ r n ok, Utf.dec (c :: d :: t) = (r, n, ok) := ⟨_, _, _, rfl⟩
    rw [hq] at s1 s2 s3 hrng hdn hro ⊢
    simp only [] at s1 s2 s3 hrng hdn hro ⊢
    obtain ⟨n, rfl⟩ := Int.eq_ofNat_of_zero_le (show 0 ≤ n by omega)
    simp only [Int.toNat_natCast, List.length_cons] at s1 s2 s3 hro
    have hpl := pairV_len r
    have hdr : (c :: d :: t).drop n = l.drop (k + n) := by rw [← h, List.drop_drop]
    rw [hdr] at s3 hro
    have hpos := Jlex.textLen_le _ _ (Nat.le_refl _) s3
    rw [List.length_drop] at hpos
    have fn : IntKind.i64.wrap ((k : Int) + (n : Int)) = ((k + n : Nat) : Int) := by rw [w64 (by omega) (by omega)]; omega
    refine ⟨⟨hb, by omega⟩, hrng, by omega, (o ++ pairV r, k + n), by simp only []; omega, ⟨by simp only []; omega, by simp only []; omega, by simp only [List.length_append]; omega, ?_, fun f hf => ?_⟩, Le.of (fun _ => 57) [] ?_⟩
    ·simp only []; rw [s3]; exact congrArg some (by omega)
    ·simp only [] at hf ⊢
     have h3 := hr (l.length + 1) (by omega)
     rw [h, hro, juV_fuel l.length f (l.drop (k + n)) (fun x hx => hb x (List.mem_of_mem_drop hx)) (by rw [List.length_drop]; omega) (by rw [List.length_drop]; exact hf), ← List.append_assoc] at h3
     exact h3
    ·simp only [bytesD, fn, List.map_append, List.length_append, List.length_map, Mt_tup, Mt_agg, Mt_fn, forall_eq, forall_eq_or_imp, ne_eq, List.all_cons, List.all_nil, pr, Nat.reduceLeDiff, slR_nil, slR_cons, hpR_nil, hpR_cells, hpR_row, idsR_nil, idsR_cons, mtE_v, mtE_sl, mtE_nil, mtE_refl, mtE_row, mtE_born, mtE_ptr, mtE_rp, mtE_agg, mtE_tup, mtE_fn, mtE_ep, MtL_nil, MtL_cons, Mt_v, Mt_sl, Mt_nil, Mt_refl, Mt_row, Mt_born, Mt_ptr, MtO_cells, MtO_row, liveIds, distinct, Dat.v.injEq, Dat.sl.injEq, Value.int.injEq, Value.bool.injEq, Value.string.injEq, lk_cons, lk_nil, subL_nil, subL_cons, upIds, AV.ids, AV.ids.idsL, AObj.ids, Hp.get_cons, get_nil, allCell, AV.cell, vInt, vBool, vStr, id, true_and, and_true, and_self, List.append_nil, List.nil_append, List.not_mem_nil, List.mem_cons, or_false, false_or, or_self, not_true_eq_false, not_false_eq_true, false_imp_iff, false_implies, List.map_nil, not_false_eq_true, List.contains_cons, List.contains_nil, Bool.or_false, Bool.false_or, Bool.true_or, Bool.or_true, Bool.and_true, Bool.true_and, implies_true, if_true, if_false, reduceCtorEq, Nat.reduceEqDiff, Nat.reduceBEq, Nat.reduceAdd, reduceIte, ↓reduceIte]
     first | done | rfl
  ·simp only [bytesD, intsD, getD_iD, iD, num_iD, nz1, e1, G_ju_at, calmE, F_txj, F_val, F_Next, F_pair, F_hexd, Int.toNat_natCast, AV.flat, AV.flat.flatL, List.length_map, Int.reduceLE, Int.reduceLT, Int.reduceGT, Int.reduceGE, Int.reduceBEq, Int.reduceBNe, Int.reduceEq, Int.reduceToNat, Int.reduceSub, Int.reduceAdd, Int.reduceMul, Int.reducePow, Int.reduceNeg, goTG_val, goTG_new, goTG_up, goTG_none, goG_none, goG_new, goG_up, ne_eq, evK, evH, retHF, DRun_mk, runT_nil, runT_none, runT_guard, goT_val, goT_new, goT_store, goTH_true, goTH_false, evO, keys, Option.toList_some, Option.toList_none, nzL_nil, nzL_cons, nz_k, nz_sl, nz_nil, nz_agg, startL, evC, evV, goE_val, goE_new, goE_store, goH_true, goH_false, goG_val, lk_cons, lk_nil, lk_func, lk_int, lk_bool, lk_string, lk_slice, lk_agg, look_mk, St.effOf, eff, effCall, effBinC, isConst, effBin, effUn, effConv, effPick, effNil, effFold, fold1, effLoad, effStore, effFieldAddr, effField, fieldOf, sliceOf, effIndexAddr, effIndex, effLen, effExtract, effSlice, dats, bnd, effBuild, placesOf, effBuildSlice, effMakeSlice, effAppend, srcOf, fillA, chunk, seg, toD, toDs, put, eqAV, fieldsEq, leafEq, strip, unw, allB, selP_or, selP_and, tis, TyD.agg, AV.cells, AV.cell, allCell, vInt, vBool, vStr, subL_nil, subL_cons, upIds, AV.ids, AV.ids.idsL, AObj.ids, drops, Hp.get_cons, get_nil, retF, resL, one, fz, fz.fzL, List.map_cons, List.map_nil, List.nil_append, List.append_nil, List.cons_append, List.all_cons, List.all_nil, List.length_cons, List.length_nil, List.getElem?_cons_zero, List.getElem?_cons_succ, List.getD_cons_zero, List.getD_cons_succ, List.take_succ_cons, List.take_zero, List.drop_succ_cons, List.drop_zero, List.take_nil, List.drop_nil, List.contains_cons, List.contains_nil, Option.getD_some, Option.getD_none, Option.map_some, Option.map_none, if_true, if_false, true_and, and_true, and_self, or_self, or_false, false_or, false_and, and_false, reduceCtorEq, sel_and, sel_or, decide_eq_true_eq, Bool.and_eq_true, Bool.or_eq_true, Bool.and_true, Bool.true_and, Bool.or_false, Bool.false_or, Bool.true_or, Bool.or_true, Bool.not_true, Bool.not_false, Bool.false_eq_true, implies_true, not_false_eq_true, Nat.reduceLT, Nat.reduceEqDiff, Nat.reduceAdd, Nat.reduceMul, Nat.reduceMod, Nat.reduceLeDiff, Nat.reduceBEq, Nat.zero_add, Nat.add_zero, reduceIte, ↓reduceIte, List.not_mem_nil]
   rw [if_neg (by omega)]
   have h2 := hr 1 (by omega)
   rw [juV_len 1 _ (by rw [List.length_drop]; omega), List.append_nil] at h2
   rw [h2]
def F_ju : List AV → Option (Prop × AV)
 | [.d (.sl 1 xs)] => some (xs = (xs.map numOf).map (iD .u8) ∧ Bytes (xs.map numOf) ∧ xs.length ≤ 100000000, .tup [.d (intsD (juF (xs.map numOf)).1), vBool (juF (xs.map numOf)).2])
 | _ => none
theorem ju_calm : ∀ args sc res, F_ju args = some (sc, res) → sc → Calm Try.prog 34 args res := by
 intro args sc res h hs
 unfold F_ju at h
 split at h <;> cases h
 rename_i xs
 obtain ⟨h1, hb, h2⟩ := hs
 have hq := ju_body (xs.map numOf) hb (by simpa using h2)
 rw [bytesD, ← h1] at hq
 exact known_G_ju.calm mixed rfl rfl hq
end Go.Proofs.Ytgbialeahdoelaa.Eng

end

section
namespace Go.Proofs.Ytgbialeahdoelaa.Eng
open Go Go.Proofs.Ytgbialeahdoelaa.Base
set_option maxRecDepth 100000
set_option linter.unusedSimpArgs false
set_option linter.unusedVariables false
def sgJ (j : Nat) (c : Int) (i : Nat) : Int × Int := match Jlex.sign c with
 | some k => if k ≤ j then (k, ((i + 1 : Nat) : Int)) else (0, -1)
 | none => (0, -1)
def wdL (j : Nat) : List Int := if j = 0 then [116, 114, 117, 101] else if j = 1 then [102, 97, 108, 115, 101] else [110, 117, 108, 108]
def wdM (j : Nat) (u : List Int) : Prop := u.take (wdL j).length = wdL j ∧ Jlex.goes (u.drop (wdL j).length) = false
instance (j : Nat) (u : List Int) : Decidable (wdM j u) := by unfold wdM; infer_instance
def wst (u : List Int) (i : Nat) (s : Int × Int) : Nat → Int × Int
 | 0 => s
 | j + 1 => if wdM j u then (9 + (j : Int), ((i + (wdL j).length : Nat) : Int)) else wst u i s j
def sgL : List Int := [123, 125, 91, 93, 58, 44]
theorem sgJ_step {j : Nat} (hj : j < 6) (c : Int) (i : Nat) : sgJ (j + 1) c i = if sgL.getD j 0 = c then (((j + 1 : Nat) : Int), ((i + 1 : Nat) : Int)) else sgJ j c i := by
 unfold sgJ Jlex.sign
 obtain rfl | rfl | rfl | rfl | rfl | rfl : j = 0 ∨ j = 1 ∨ j = 2 ∨ j = 3 ∨ j = 4 ∨ j = 5 := by omega
 all_goals
  simp only [sgL, List.getD_cons_zero, List.getD_cons_succ]
  by_cases c1 : c = 123
  ·subst c1; simp
  by_cases c2 : c = 125
  ·subst c2; simp
  by_cases c3 : c = 91
  ·subst c3; simp
  by_cases c4 : c = 93
  ·subst c4; simp
  by_cases c5 : c = 58
  ·subst c5; simp
  by_cases c6 : c = 44
  ·subst c6; simp
  simp only [if_neg c1, if_neg c2, if_neg c3, if_neg c4, if_neg c5, if_neg c6]
  rw [if_neg (by omega)]
theorem sgJ_all (c : Int) (i : Nat) : sgJ 6 c i = match Jlex.sign c with
 | some k => (k, ((i + 1 : Nat) : Int))
 | none => (0, -1) := by
 unfold sgJ
 rcases h : Jlex.sign c with _ | k
 ·rfl
 ·have := Jlex.sign_range h
  simp only []
  rw [if_pos (by omega)]
theorem wst_all (u : List Int) (i : Nat) (s : Int × Int) : wst u i s 3 = match Jlex.wordTok u with
 | (k, some n) => (k, ((i + n : Nat) : Int))
 | (_, none) => s := by
 have t0 : wdM 0 u ↔ (u.take 4 = [116, 114, 117, 101] ∧ Jlex.goes (u.drop 4) = false) := Iff.rfl
 have t1 : wdM 1 u ↔ (u.take 5 = [102, 97, 108, 115, 101] ∧ Jlex.goes (u.drop 5) = false) := Iff.rfl
 have t2 : wdM 2 u ↔ (u.take 4 = [110, 117, 108, 108] ∧ Jlex.goes (u.drop 4) = false) := Iff.rfl
 have hd : ∀ {m : Nat} {x : Int} {w : List Int}, u.take m = x :: w → u.head? = some x := fun {m x w} h => by
  cases u with
  | nil => simp at h
  | cons y u => cases m with
   | zero => simp at h
   | succ m => rw [List.take_succ_cons] at h; rw [List.head?_cons, (List.cons.inj h).1]
 unfold Jlex.wordTok wst wst wst
 by_cases m0 : u.take 4 = [116, 114, 117, 101] ∧ Jlex.goes (u.drop 4) = false
 ·have h0 := hd m0.1
  rw [if_neg (fun h => by have := hd (t2.1 h).1; rw [h0] at this; cases this), if_neg (fun h => by have := hd (t1.1 h).1; rw [h0] at this; cases this), if_pos (t0.2 m0), if_pos m0]
  rfl
 by_cases m1 : u.take 5 = [102, 97, 108, 115, 101] ∧ Jlex.goes (u.drop 5) = false
 ·have h0 := hd m1.1
  rw [if_neg (fun h => by have := hd (t2.1 h).1; rw [h0] at this; cases this), if_pos (t1.2 m1), if_neg m0, if_pos m1]
  rfl
 by_cases m2 : u.take 4 = [110, 117, 108, 108] ∧ Jlex.goes (u.drop 4) = false
 ·rw [if_pos (t2.2 m2), if_neg m0, if_neg m1, if_pos m2]
  rfl
 ·rw [if_neg (fun h => m2 (t2.1 h)), if_neg (fun h => m1 (t1.1 h)), if_neg (fun h => m0 (t0.1 h)), if_neg m0, if_neg m1, if_neg m2]
  rfl
theorem word_cond2 {l : List Int} (hb : Bytes l) (a n : Nat) (wl : List Int) (hn : wl.length = n) (h0 : 1 ≤ n) (w : ByteArray) (hw : sB w = wl) :
  (((a + n : Nat) : Int) ≤ (l.length : Int) ∧ ((strOfNums (((l.map (iD .u8)).drop a).take (a + n - a) |>.map byteOf)).toList == w.toList) = true) ∧ (!Jlex.goes (l.drop (a + n))) = true ↔ (l.drop a).take n = wl ∧ Jlex.goes ((l.drop a).drop n) = false := by
 rw [← oneV_goes hb]
 exact word_cond hb a n wl hn h0 w hw
theorem word_sign {c k : Int} {t : List Int} (h : Jlex.sign c = some k) : Jlex.wordTok (c :: t) = (0, none) := by
 have hg := (Jlex.sign_range h).2.2.1
 have no : ∀ {m : Nat} {x : Int} {w : List Int}, (c :: t).take (m + 1) = x :: w → Jlex.go x = true → False := fun {m x w} h1 h2 => by
  rw [List.take_succ_cons] at h1
  rw [← (List.cons.inj h1).1, hg] at h2
  cases h2
 unfold Jlex.wordTok
 rw [if_neg (fun h => no h.1 (by decide)), if_neg (fun h => no h.1 (by decide)), if_neg (fun h => no h.1 (by decide))]
theorem word_none {u : List Int} {kd : Int} (h : Jlex.wordTok u = (kd, none)) : kd = 0 := by
 unfold Jlex.wordTok at h
 (repeat' split at h) <;> simp only [Prod.mk.injEq, reduceCtorEq, and_false, and_true] at h
 exact h.symm
theorem wst_tok {c : Int} {t : List Int} {k : Nat} (c1 : c ≠ 34) (c2 : ¬ (c = 45 ∨ Jlex.dig c = true)) : wst (c :: t) k (sgJ 6 c k) 3 = ((Jlex.tok (c :: t)).1, ansN k (Jlex.tok (c :: t)).2) := by
 rw [wst_all, sgJ_all]
 unfold Jlex.tok
 rcases hs : Jlex.sign c with _ | m
 ·simp only [hs]
  rw [if_neg c1, if_neg c2]
  rcases hw : Jlex.wordTok (c :: t) with ⟨kd, _ | n⟩
  ·rw [word_none hw]; rfl
  ·rfl
 ·simp only [hs]
  rw [word_sign hs]; rfl
noncomputable def G_rjx : Gam := (((((Gam.none.add 13 fun a => F_val (NT.nz.nzL [.s 1] a)).add 49 fun a => F_pr blkB (NT.nz.nzL [] a)).add 50 fun a => F_goes (NT.nz.nzL [.s 1] a)).add 51 fun a => F_txj (NT.nz.nzL [.s 1] a)).add 52 fun a => F_rnb (NT.nz.nzL [.s 1] a))
theorem known_G_rjx : Known Try.prog G_rjx := (((((Known.none _).addC _ rval_calm).addC _ rblank_calm).addC _ goes_calm).addC _ rtx_calm).addC _ rnb_calm
theorem G_rjx_at : (∀ h d a, G_rjx 13 h d a = calmE (fun a => F_val (NT.nz.nzL [.s 1] a)) h a) ∧ (∀ h d a, G_rjx 49 h d a = calmE (fun a => F_pr blkB (NT.nz.nzL [] a)) h a) ∧ (∀ h d a, G_rjx 50 h d a = calmE (fun a => F_goes (NT.nz.nzL [.s 1] a)) h a) ∧ (∀ h d a, G_rjx 51 h d a = calmE (fun a => F_txj (NT.nz.nzL [.s 1] a)) h a) ∧ (∀ h d a, G_rjx 52 h d a = calmE (fun a => F_rnb (NT.nz.nzL [.s 1] a)) h a) := ⟨fun _ _ _ => rfl, fun _ _ _ => rfl, fun _ _ _ => rfl, fun _ _ _ => rfl, fun _ _ _ => rfl⟩
theorem rjx_body (l : List Int) (hb : Bytes l) : Body Try.prog G_rjx (DRun Try.prog G_rjx) 30 [.d (bytesD l)] (splitD (splitF l)) := by
 refine Body.of Try.func30 Try.ntmps30 (by kernel_rfl) rfl rfl rfl ?_
 have nz1 : ∀ xs, (NT.s 1).nz (.d (.sl 1 xs)) = .d (.sl 1 xs) := fun xs => rfl
 simp only [bytesD, getD_iD, iD, num_iD, nz1, G_rjx_at, calmE, F_val, Int.toNat_natCast, AV.flat, AV.flat.flatL, List.length_map, Int.reduceLE, Int.reduceLT, Int.reduceGT, Int.reduceGE, Int.reduceBEq, Int.reduceBNe, Int.reduceEq, Int.reduceToNat, Int.reduceSub, Int.reduceAdd, Int.reduceMul, Int.reducePow, Int.reduceNeg, goTG_val, goTG_new, goTG_up, goTG_none, goG_none, goG_new, goG_up, ne_eq, evK, evH, retHF, DRun_mk, runT_nil, runT_none, runT_guard, goT_val, goT_new, goT_store, goTH_true, goTH_false, evO, keys, Option.toList_some, Option.toList_none, nzL_nil, nzL_cons, nz_k, nz_sl, nz_nil, nz_agg, startL, evC, evV, goE_val, goE_new, goE_store, goH_true, goH_false, goG_val, lk_cons, lk_nil, lk_func, lk_int, lk_bool, lk_string, lk_slice, lk_agg, look_mk, St.effOf, eff, effCall, effBinC, isConst, effBin, effUn, effConv, effPick, effNil, effFold, fold1, effLoad, effStore, effFieldAddr, effField, fieldOf, sliceOf, effIndexAddr, effIndex, effLen, effExtract, effSlice, dats, bnd, effBuild, placesOf, effBuildSlice, effMakeSlice, effAppend, srcOf, fillA, chunk, seg, toD, toDs, put, eqAV, fieldsEq, leafEq, strip, unw, allB, selP_or, selP_and, tis, TyD.agg, AV.cells, AV.cell, allCell, vInt, vBool, vStr, subL_nil, subL_cons, upIds, AV.ids, AV.ids.idsL, AObj.ids, drops, Hp.get_cons, get_nil, retF, resL, one, fz, fz.fzL, List.map_cons, List.map_nil, List.nil_append, List.append_nil, List.cons_append, List.all_cons, List.all_nil, List.length_cons, List.length_nil, List.getElem?_cons_zero, List.getElem?_cons_succ, List.getD_cons_zero, List.getD_cons_succ, List.take_succ_cons, List.take_zero, List.drop_succ_cons, List.drop_zero, List.take_nil, List.drop_nil, List.contains_cons, List.contains_nil, Option.getD_some, Option.getD_none, Option.map_some, Option.map_none, if_true, if_false, true_and, and_true, and_self, or_self, or_false, false_or, false_and, and_false, reduceCtorEq, sel_and, sel_or, decide_eq_true_eq, Bool.and_eq_true, Bool.or_eq_true, Bool.and_true, Bool.true_and, Bool.or_false, Bool.false_or, Bool.true_or, Bool.or_true, Bool.not_true, Bool.not_false, Bool.false_eq_true, implies_true, not_false_eq_true, Nat.reduceLT, Nat.reduceEqDiff, Nat.reduceAdd, Nat.reduceMul, Nat.reduceMod, Nat.reduceLeDiff, Nat.reduceBEq, Nat.zero_add, Nat.add_zero, reduceIte, ↓reduceIte, List.not_mem_nil]
 by_cases h20 : 20000 < l.length
 ·rw [if_pos (by omega), splitF_long h20]
  exact Sub.tup ⟨.inr ⟨rfl, 3, rfl⟩, ⟨.inl rfl, .inl rfl, trivial⟩, trivial⟩
 rw [if_neg (by omega)]
 refine ⟨⟨hb, by omega⟩, ?_⟩
 cases hv : (vals l.length l).2 with
 | false =>
  rw [splitF_utf h20 hv]
  simp only [Bool.not_false, if_true]
  exact Sub.tup ⟨.inr ⟨rfl, 3, rfl⟩, ⟨.inl rfl, .inl rfl, trivial⟩, trivial⟩
 | true =>
 simp only [Bool.not_true, Bool.false_eq_true, if_false, Bool.true_eq_false]
 refine wpc_loop (fun p : List (Int × Int × Int) × Nat => ⟨150, [100, 101, 102], [(0, .d (bytesD l)), (3, .ptr 101 0), (6, .row 100 p.1.length), (7, vStr ⟨#[123, 125, 91, 93, 58, 44]⟩), (8, .row 102 3), (9, vInt .i64 p.2)], [(100, some (.row 89 3 (p.1.map tkR))), (101, some (.cells 40 [vInt .i64 0, vInt .i64 0])), (102, some (.row 9 1 wordsR))]⟩)
  (fun p => p.2 ≤ l.length ∧ p.1.length ≤ p.2 ∧ ∀ ts e, Jlex.Toks (l.drop p.2) p.2 ts e → Jlex.Toks l 0 (p.1 ++ ts) e) (fun p => l.length - p.2) ([], 0) ⟨Nat.zero_le _, Nat.le_refl _, fun ts e h => by rwa [List.drop_zero] at h⟩ ?_ ?_
 ·refine Le.of (fun o => if o = 101 then 3 else 27) [100] ?_
  simp only [bytesD, wordsR, List.length_nil, List.map_nil, Mt_tup, Mt_agg, Mt_fn, forall_eq, forall_eq_or_imp, ne_eq, List.all_cons, List.all_nil, pr, Nat.reduceLeDiff, slR_nil, slR_cons, hpR_nil, hpR_cells, hpR_row, idsR_nil, idsR_cons, mtE_v, mtE_sl, mtE_nil, mtE_refl, mtE_row, mtE_born, mtE_ptr, mtE_rp, mtE_agg, mtE_tup, mtE_fn, mtE_ep, MtL_nil, MtL_cons, Mt_v, Mt_sl, Mt_nil, Mt_refl, Mt_row, Mt_born, Mt_ptr, MtO_cells, MtO_row, liveIds, distinct, Dat.v.injEq, Dat.sl.injEq, Value.int.injEq, Value.bool.injEq, Value.string.injEq, lk_cons, lk_nil, subL_nil, subL_cons, upIds, AV.ids, AV.ids.idsL, AObj.ids, Hp.get_cons, get_nil, allCell, AV.cell, vInt, vBool, vStr, id, true_and, and_true, and_self, List.append_nil, List.nil_append, List.not_mem_nil, List.mem_cons, or_false, false_or, or_self, not_true_eq_false, not_false_eq_true, false_imp_iff, false_implies, List.map_nil, not_false_eq_true, List.contains_cons, List.contains_nil, Bool.or_false, Bool.false_or, Bool.true_or, Bool.or_true, Bool.and_true, Bool.true_and, implies_true, if_true, if_false, reduceCtorEq, Nat.reduceEqDiff, Nat.reduceBEq, Nat.reduceAdd, reduceIte, ↓reduceIte]
  exact ⟨rfl, rfl⟩
 ·rintro ⟨o, k⟩ ⟨hk, ho, hr⟩
  simp only [] at hk ho hr
  simp only [bytesD, getD_iD, iD, num_iD, nz1, G_rjx_at, calmE, F_val, F_pr, F_goes, F_txj, F_rnb, Int.toNat_natCast, AV.flat, AV.flat.flatL, List.length_map, Int.reduceLE, Int.reduceLT, Int.reduceGT, Int.reduceGE, Int.reduceBEq, Int.reduceBNe, Int.reduceEq, Int.reduceToNat, Int.reduceSub, Int.reduceAdd, Int.reduceMul, Int.reducePow, Int.reduceNeg, goTG_val, goTG_new, goTG_up, goTG_none, goG_none, goG_new, goG_up, ne_eq, evK, evH, retHF, DRun_mk, runT_nil, runT_none, runT_guard, goT_val, goT_new, goT_store, goTH_true, goTH_false, evO, keys, Option.toList_some, Option.toList_none, nzL_nil, nzL_cons, nz_k, nz_sl, nz_nil, nz_agg, startL, evC, evV, goE_val, goE_new, goE_store, goH_true, goH_false, goG_val, lk_cons, lk_nil, lk_func, lk_int, lk_bool, lk_string, lk_slice, lk_agg, look_mk, St.effOf, eff, effCall, effBinC, isConst, effBin, effUn, effConv, effPick, effNil, effFold, fold1, effLoad, effStore, effFieldAddr, effField, fieldOf, sliceOf, effIndexAddr, effIndex, effLen, effExtract, effSlice, dats, bnd, effBuild, placesOf, effBuildSlice, effMakeSlice, effAppend, srcOf, fillA, chunk, seg, toD, toDs, put, eqAV, fieldsEq, leafEq, strip, unw, allB, selP_or, selP_and, tis, TyD.agg, AV.cells, AV.cell, allCell, vInt, vBool, vStr, subL_nil, subL_cons, upIds, AV.ids, AV.ids.idsL, AObj.ids, drops, Hp.get_cons, get_nil, retF, resL, one, fz, fz.fzL, List.map_cons, List.map_nil, List.nil_append, List.append_nil, List.cons_append, List.all_cons, List.all_nil, List.length_cons, List.length_nil, List.getElem?_cons_zero, List.getElem?_cons_succ, List.getD_cons_zero, List.getD_cons_succ, List.take_succ_cons, List.take_zero, List.drop_succ_cons, List.drop_zero, List.take_nil, List.drop_nil, List.contains_cons, List.contains_nil, Option.getD_some, Option.getD_none, Option.map_some, Option.map_none, if_true, if_false, true_and, and_true, and_self, or_self, or_false, false_or, false_and, and_false, reduceCtorEq, sel_and, sel_or, decide_eq_true_eq, Bool.and_eq_true, Bool.or_eq_true, Bool.and_true, Bool.true_and, Bool.or_false, Bool.false_or, Bool.true_or, Bool.or_true, Bool.not_true, Bool.not_false, Bool.false_eq_true, implies_true, not_false_eq_true, Nat.reduceLT, Nat.reduceEqDiff, Nat.reduceAdd, Nat.reduceMul, Nat.reduceMod, Nat.reduceLeDiff, Nat.reduceBEq, Nat.zero_add, Nat.add_zero, reduceIte, ↓reduceIte, List.not_mem_nil]
  by_cases h1 : k < l.length
  ·rw [if_pos (by omega)]
   refine ⟨by omega, ?_⟩
   obtain ⟨c, t, h⟩ : ∃ c t, l.drop k = c :: t := by
    rcases h : l.drop k with _ | ⟨c, t⟩
    ·have := List.drop_eq_nil_iff.1 h; omega
    ·exact ⟨c, t, rfl⟩
   have hc := (getD_drop h).1
   have hcb := byte_at hb h
   have hlt := congrArg List.length h
   rw [List.length_drop, List.length_cons] at hlt
   have f1 : IntKind.i64.wrap ((k : Int) + 1) = ((k + 1 : Nat) : Int) := by rw [w64 (by omega) (by omega)]; omega
   rw [hc]
   by_cases c1 : blkB c = true
   ·rw [if_pos c1]
    refine ⟨(o, k + 1), by simp only []; omega, ⟨by simp only []; omega, by simp only []; omega, fun ts e h2 => hr ts e ?_⟩, Le.of id [] ?_⟩
    ·rw [h]
     have := Jlex.toks_absorb h2 [c] (k : Int) (fun x hx => by rw [List.mem_singleton.1 hx]; exact c1) (by simp)
     simp only [] at this
     rw [drop_tail h] at this
     exact this
    ·simp only [bytesD, wordsR, f1, Mt_tup, Mt_agg, Mt_fn, forall_eq, forall_eq_or_imp, ne_eq, List.all_cons, List.all_nil, pr, Nat.reduceLeDiff, slR_nil, slR_cons, hpR_nil, hpR_cells, hpR_row, idsR_nil, idsR_cons, mtE_v, mtE_sl, mtE_nil, mtE_refl, mtE_row, mtE_born, mtE_ptr, mtE_rp, mtE_agg, mtE_tup, mtE_fn, mtE_ep, MtL_nil, MtL_cons, Mt_v, Mt_sl, Mt_nil, Mt_refl, Mt_row, Mt_born, Mt_ptr, MtO_cells, MtO_row, liveIds, distinct, Dat.v.injEq, Dat.sl.injEq, Value.int.injEq, Value.bool.injEq, Value.string.injEq, lk_cons, lk_nil, subL_nil, subL_cons, upIds, AV.ids, AV.ids.idsL, AObj.ids, Hp.get_cons, get_nil, allCell, AV.cell, vInt, vBool, vStr, id, true_and, and_true, and_self, List.append_nil, List.nil_append, List.not_mem_nil, List.mem_cons, or_false, false_or, or_self, not_true_eq_false, not_false_eq_true, false_imp_iff, false_implies, List.map_nil, not_false_eq_true, List.contains_cons, List.contains_nil, Bool.or_false, Bool.false_or, Bool.true_or, Bool.or_true, Bool.and_true, Bool.true_and, implies_true, if_true, if_false, reduceCtorEq, Nat.reduceEqDiff, Nat.reduceBEq, Nat.reduceAdd, reduceIte, ↓reduceIte]
     rfl
   ·rw [if_neg c1]
    rw [Bool.not_eq_true] at c1
    rw [h] at hr
    have hS : sB ⟨#[123, 125, 91, 93, 58, 44]⟩ = sgL := rfl
    have hZ : ((ByteArray.size ⟨#[123, 125, 91, 93, 58, 44]⟩ : Nat) : Int) = 6 := rfl
    refine wpc_loop (fun j : Nat => ⟨150, [100, 101, 102, 103], [(0, .d (bytesD l)), (3, .ptr 101 0), (6, .row 100 o.length), (7, vStr ⟨#[123, 125, 91, 93, 58, 44]⟩), (8, .row 102 3), (9, vInt .i64 k), (10, .ptr 103 0), (11, vInt .i64 j)], [(100, some (.row 89 3 (o.map tkR))), (101, some (.cells 40 [vInt .i64 0, vInt .i64 0])), (102, some (.row 9 1 wordsR)), (103, some (.cells 89 [vInt .i64 (sgJ j c k).1, vInt .i64 k, vInt .i64 (sgJ j c k).2]))]⟩)
     (fun j => j ≤ 6) (fun j => 6 - j) 0 (by omega) ?_ ?_
    ·refine Le.of (fun o => if o = 103 then 10 else o) [] ?_
     have e0 : sgJ 0 c k = (0, -1) := by
      unfold sgJ
      rcases hs : Jlex.sign c with _ | m
      ·rfl
      ·have := Jlex.sign_range hs
       simp only []
       rw [if_neg (by omega)]
     simp only [bytesD, wordsR, e0, Mt_tup, Mt_agg, Mt_fn, forall_eq, forall_eq_or_imp, ne_eq, List.all_cons, List.all_nil, pr, Nat.reduceLeDiff, slR_nil, slR_cons, hpR_nil, hpR_cells, hpR_row, idsR_nil, idsR_cons, mtE_v, mtE_sl, mtE_nil, mtE_refl, mtE_row, mtE_born, mtE_ptr, mtE_rp, mtE_agg, mtE_tup, mtE_fn, mtE_ep, MtL_nil, MtL_cons, Mt_v, Mt_sl, Mt_nil, Mt_refl, Mt_row, Mt_born, Mt_ptr, MtO_cells, MtO_row, liveIds, distinct, Dat.v.injEq, Dat.sl.injEq, Value.int.injEq, Value.bool.injEq, Value.string.injEq, lk_cons, lk_nil, subL_nil, subL_cons, upIds, AV.ids, AV.ids.idsL, AObj.ids, Hp.get_cons, get_nil, allCell, AV.cell, vInt, vBool, vStr, id, true_and, and_true, and_self, List.append_nil, List.nil_append, List.not_mem_nil, List.mem_cons, or_false, false_or, or_self, not_true_eq_false, not_false_eq_true, false_imp_iff, false_implies, List.map_nil, not_false_eq_true, List.contains_cons, List.contains_nil, Bool.or_false, Bool.false_or, Bool.true_or, Bool.or_true, Bool.and_true, Bool.true_and, implies_true, if_true, if_false, reduceCtorEq, Nat.reduceEqDiff, Nat.reduceBEq, Nat.reduceAdd, reduceIte, ↓reduceIte]
     exact ⟨rfl, rfl⟩
    ·intro j hj
     have f2 : IntKind.i64.wrap ((j : Int) + 1) = ((j + 1 : Nat) : Int) := by rw [w64 (by omega) (by omega)]; omega
     simp only [bytesD, getD_iD, iD, num_iD, nz1, bt_sB, hS, hZ, hc, f1, f2, G_rjx_at, calmE, F_val, F_pr, F_goes, F_txj, F_rnb, Int.toNat_natCast, AV.flat, AV.flat.flatL, List.length_map, Int.reduceLE, Int.reduceLT, Int.reduceGT, Int.reduceGE, Int.reduceBEq, Int.reduceBNe, Int.reduceEq, Int.reduceToNat, Int.reduceSub, Int.reduceAdd, Int.reduceMul, Int.reducePow, Int.reduceNeg, goTG_val, goTG_new, goTG_up, goTG_none, goG_none, goG_new, goG_up, ne_eq, evK, evH, retHF, DRun_mk, runT_nil, runT_none, runT_guard, goT_val, goT_new, goT_store, goTH_true, goTH_false, evO, keys, Option.toList_some, Option.toList_none, nzL_nil, nzL_cons, nz_k, nz_sl, nz_nil, nz_agg, startL, evC, evV, goE_val, goE_new, goE_store, goH_true, goH_false, goG_val, lk_cons, lk_nil, lk_func, lk_int, lk_bool, lk_string, lk_slice, lk_agg, look_mk, St.effOf, eff, effCall, effBinC, isConst, effBin, effUn, effConv, effPick, effNil, effFold, fold1, effLoad, effStore, effFieldAddr, effField, fieldOf, sliceOf, effIndexAddr, effIndex, effLen, effExtract, effSlice, dats, bnd, effBuild, placesOf, effBuildSlice, effMakeSlice, effAppend, srcOf, fillA, chunk, seg, toD, toDs, put, eqAV, fieldsEq, leafEq, strip, unw, allB, selP_or, selP_and, tis, TyD.agg, AV.cells, AV.cell, allCell, vInt, vBool, vStr, subL_nil, subL_cons, upIds, AV.ids, AV.ids.idsL, AObj.ids, drops, Hp.get_cons, get_nil, retF, resL, one, fz, fz.fzL, List.map_cons, List.map_nil, List.nil_append, List.append_nil, List.cons_append, List.all_cons, List.all_nil, List.length_cons, List.length_nil, List.getElem?_cons_zero, List.getElem?_cons_succ, List.getD_cons_zero, List.getD_cons_succ, List.take_succ_cons, List.take_zero, List.drop_succ_cons, List.drop_zero, List.take_nil, List.drop_nil, List.contains_cons, List.contains_nil, Option.getD_some, Option.getD_none, Option.map_some, Option.map_none, if_true, if_false, true_and, and_true, and_self, or_self, or_false, false_or, false_and, and_false, reduceCtorEq, sel_and, sel_or, decide_eq_true_eq, Bool.and_eq_true, Bool.or_eq_true, Bool.and_true, Bool.true_and, Bool.or_false, Bool.false_or, Bool.true_or, Bool.or_true, Bool.not_true, Bool.not_false, Bool.false_eq_true, implies_true, not_false_eq_true, Nat.reduceLT, Nat.reduceEqDiff, Nat.reduceAdd, Nat.reduceMul, Nat.reduceMod, Nat.reduceLeDiff, Nat.reduceBEq, Nat.zero_add, Nat.add_zero, reduceIte, ↓reduceIte, List.not_mem_nil]
     by_cases q : j < 6
     ·rw [if_pos (by omega)]
      refine ⟨by omega, by omega, by kernel_rfl, ?_⟩
      have hst := sgJ_step q c k
      by_cases q2 : sgL.getD j 0 = c
      ·rw [if_pos (by rw [beq_iff_eq]; exact q2)]
       rw [if_pos q2] at hst
       refine ⟨j + 1, by omega, by omega, Le.of id [] ?_⟩
       simp only [bytesD, wordsR, hst, Mt_tup, Mt_agg, Mt_fn, forall_eq, forall_eq_or_imp, ne_eq, List.all_cons, List.all_nil, pr, Nat.reduceLeDiff, slR_nil, slR_cons, hpR_nil, hpR_cells, hpR_row, idsR_nil, idsR_cons, mtE_v, mtE_sl, mtE_nil, mtE_refl, mtE_row, mtE_born, mtE_ptr, mtE_rp, mtE_agg, mtE_tup, mtE_fn, mtE_ep, MtL_nil, MtL_cons, Mt_v, Mt_sl, Mt_nil, Mt_refl, Mt_row, Mt_born, Mt_ptr, MtO_cells, MtO_row, liveIds, distinct, Dat.v.injEq, Dat.sl.injEq, Value.int.injEq, Value.bool.injEq, Value.string.injEq, lk_cons, lk_nil, subL_nil, subL_cons, upIds, AV.ids, AV.ids.idsL, AObj.ids, Hp.get_cons, get_nil, allCell, AV.cell, vInt, vBool, vStr, id, true_and, and_true, and_self, List.append_nil, List.nil_append, List.not_mem_nil, List.mem_cons, or_false, false_or, or_self, not_true_eq_false, not_false_eq_true, false_imp_iff, false_implies, List.map_nil, not_false_eq_true, List.contains_cons, List.contains_nil, Bool.or_false, Bool.false_or, Bool.true_or, Bool.or_true, Bool.and_true, Bool.true_and, implies_true, if_true, if_false, reduceCtorEq, Nat.reduceEqDiff, Nat.reduceBEq, Nat.reduceAdd, reduceIte, ↓reduceIte]
       rfl
      ·rw [if_neg (by rw [beq_iff_eq]; exact q2)]
       rw [if_neg q2] at hst
       refine ⟨j + 1, by omega, by omega, Le.of id [] ?_⟩
       simp only [bytesD, wordsR, hst, Mt_tup, Mt_agg, Mt_fn, forall_eq, forall_eq_or_imp, ne_eq, List.all_cons, List.all_nil, pr, Nat.reduceLeDiff, slR_nil, slR_cons, hpR_nil, hpR_cells, hpR_row, idsR_nil, idsR_cons, mtE_v, mtE_sl, mtE_nil, mtE_refl, mtE_row, mtE_born, mtE_ptr, mtE_rp, mtE_agg, mtE_tup, mtE_fn, mtE_ep, MtL_nil, MtL_cons, Mt_v, Mt_sl, Mt_nil, Mt_refl, Mt_row, Mt_born, Mt_ptr, MtO_cells, MtO_row, liveIds, distinct, Dat.v.injEq, Dat.sl.injEq, Value.int.injEq, Value.bool.injEq, Value.string.injEq, lk_cons, lk_nil, subL_nil, subL_cons, upIds, AV.ids, AV.ids.idsL, AObj.ids, Hp.get_cons, get_nil, allCell, AV.cell, vInt, vBool, vStr, id, true_and, and_true, and_self, List.append_nil, List.nil_append, List.not_mem_nil, List.mem_cons, or_false, false_or, or_self, not_true_eq_false, not_false_eq_true, false_imp_iff, false_implies, List.map_nil, not_false_eq_true, List.contains_cons, List.contains_nil, Bool.or_false, Bool.false_or, Bool.true_or, Bool.or_true, Bool.and_true, Bool.true_and, implies_true, if_true, if_false, reduceCtorEq, Nat.reduceEqDiff, Nat.reduceBEq, Nat.reduceAdd, reduceIte, ↓reduceIte]
       rfl
     ·rw [if_neg (by omega)]
      have hj6 : j = 6 := by omega
      subst hj6
      refine wpc_loop (fun j : Nat => ⟨150, [100, 101, 102, 103], [(0, .d (bytesD l)), (3, .ptr 101 0), (6, .row 100 o.length), (7, vStr ⟨#[123, 125, 91, 93, 58, 44]⟩), (8, .row 102 3), (9, vInt .i64 k), (10, .ptr 103 0), (12, vInt .i64 j)], [(100, some (.row 89 3 (o.map tkR))), (101, some (.cells 40 [vInt .i64 0, vInt .i64 0])), (102, some (.row 9 1 wordsR)), (103, some (.cells 89 [vInt .i64 (wst (c :: t) k (sgJ 6 c k) j).1, vInt .i64 k, vInt .i64 (wst (c :: t) k (sgJ 6 c k) j).2]))]⟩)
       (fun j => j ≤ 3) (fun j => 3 - j) 0 (by omega) ?_ ?_
      ·refine Le.of id [] ?_
       simp only [bytesD, wordsR, wst, Mt_tup, Mt_agg, Mt_fn, forall_eq, forall_eq_or_imp, ne_eq, List.all_cons, List.all_nil, pr, Nat.reduceLeDiff, slR_nil, slR_cons, hpR_nil, hpR_cells, hpR_row, idsR_nil, idsR_cons, mtE_v, mtE_sl, mtE_nil, mtE_refl, mtE_row, mtE_born, mtE_ptr, mtE_rp, mtE_agg, mtE_tup, mtE_fn, mtE_ep, MtL_nil, MtL_cons, Mt_v, Mt_sl, Mt_nil, Mt_refl, Mt_row, Mt_born, Mt_ptr, MtO_cells, MtO_row, liveIds, distinct, Dat.v.injEq, Dat.sl.injEq, Value.int.injEq, Value.bool.injEq, Value.string.injEq, lk_cons, lk_nil, subL_nil, subL_cons, upIds, AV.ids, AV.ids.idsL, AObj.ids, Hp.get_cons, get_nil, allCell, AV.cell, vInt, vBool, vStr, id, true_and, and_true, and_self, List.append_nil, List.nil_append, List.not_mem_nil, List.mem_cons, or_false, false_or, or_self, not_true_eq_false, not_false_eq_true, false_imp_iff, false_implies, List.map_nil, not_false_eq_true, List.contains_cons, List.contains_nil, Bool.or_false, Bool.false_or, Bool.true_or, Bool.or_true, Bool.and_true, Bool.true_and, implies_true, if_true, if_false, reduceCtorEq, Nat.reduceEqDiff, Nat.reduceBEq, Nat.reduceAdd, reduceIte, ↓reduceIte]
       exact ⟨rfl, rfl⟩
      ·intro j hj
       have f3 : IntKind.i64.wrap ((j : Int) + 1) = ((j + 1 : Nat) : Int) := by rw [w64 (by omega) (by omega)]; omega
       obtain rfl | rfl | rfl | rfl : j = 0 ∨ j = 1 ∨ j = 2 ∨ j = 3 := by omega
       ·simp only [bytesD, wordsR, getD_iD, iD, num_iD, nz1, hc, f1, G_rjx_at, calmE, F_val, F_pr, F_goes, F_txj, F_rnb, Int.toNat_natCast, Int.ofNat_zero, Int.cast_ofNat_Int, AV.flat, AV.flat.flatL, List.length_map, Int.reduceLE, Int.reduceLT, Int.reduceGT, Int.reduceGE, Int.reduceBEq, Int.reduceBNe, Int.reduceEq, Int.reduceToNat, Int.reduceSub, Int.reduceAdd, Int.reduceMul, Int.reducePow, Int.reduceNeg, goTG_val, goTG_new, goTG_up, goTG_none, goG_none, goG_new, goG_up, ne_eq, evK, evH, retHF, DRun_mk, runT_nil, runT_none, runT_guard, goT_val, goT_new, goT_store, goTH_true, goTH_false, evO, keys, Option.toList_some, Option.toList_none, nzL_nil, nzL_cons, nz_k, nz_sl, nz_nil, nz_agg, startL, evC, evV, goE_val, goE_new, goE_store, goH_true, goH_false, goG_val, lk_cons, lk_nil, lk_func, lk_int, lk_bool, lk_string, lk_slice, lk_agg, look_mk, St.effOf, eff, effCall, effBinC, isConst, effBin, effUn, effConv, effPick, effNil, effFold, fold1, effLoad, effStore, effFieldAddr, effField, fieldOf, sliceOf, effIndexAddr, effIndex, effLen, effExtract, effSlice, dats, bnd, effBuild, placesOf, effBuildSlice, effMakeSlice, effAppend, srcOf, fillA, chunk, seg, toD, toDs, put, eqAV, fieldsEq, leafEq, strip, unw, allB, selP_or, selP_and, tis, TyD.agg, AV.cells, AV.cell, allCell, vInt, vBool, vStr, subL_nil, subL_cons, upIds, AV.ids, AV.ids.idsL, AObj.ids, drops, Hp.get_cons, get_nil, retF, resL, one, fz, fz.fzL, List.map_cons, List.map_nil, List.nil_append, List.append_nil, List.cons_append, List.all_cons, List.all_nil, List.length_cons, List.length_nil, List.getElem?_cons_zero, List.getElem?_cons_succ, List.getD_cons_zero, List.getD_cons_succ, List.take_succ_cons, List.take_zero, List.drop_succ_cons, List.drop_zero, List.take_nil, List.drop_nil, List.contains_cons, List.contains_nil, Option.getD_some, Option.getD_none, Option.map_some, Option.map_none, if_true, if_false, true_and, and_true, and_self, or_self, or_false, false_or, false_and, and_false, reduceCtorEq, sel_and, sel_or, decide_eq_true_eq, Bool.and_eq_true, Bool.or_eq_true, Bool.and_true, Bool.true_and, Bool.or_false, Bool.false_or, Bool.true_or, Bool.or_true, Bool.not_true, Bool.not_false, Bool.false_eq_true, implies_true, not_false_eq_true, Nat.reduceLT, Nat.reduceEqDiff, Nat.reduceAdd, Nat.reduceMul, Nat.reduceMod, Nat.reduceLeDiff, Nat.reduceBEq, Nat.zero_add, Nat.add_zero, reduceIte, ↓reduceIte, List.not_mem_nil]
        have ew : IntKind.i64.wrap ((k : Int) + (ByteArray.size ⟨#[116, 114, 117, 101]⟩ : Nat)) = ((k + 4 : Nat) : Int) := by rw [show (ByteArray.size ⟨#[116, 114, 117, 101]⟩ : Nat) = 4 from rfl, w64 (by omega) (by omega)]; omega
        have hw := word_cond2 hb k 4 [116, 114, 117, 101] rfl (by decide) ⟨#[116, 114, 117, 101]⟩ (by decide +kernel)
        have e1 : IntKind.i64.wrap 1 = 1 := rfl
        have e9 : IntKind.i64.wrap 9 = 9 := rfl
        rw [h] at hw
        have hst : wst (c :: t) k (sgJ 6 c k) 1 = if wdM 0 (c :: t) then (9 + ((0 : Nat) : Int), ((k + (wdL 0).length : Nat) : Int)) else wst (c :: t) k (sgJ 6 c k) 0 := rfl
        simp only [ew, e1, e9, Int.toNat_natCast]
        refine ⟨fun h => ⟨by omega, by omega, h⟩, fun h r hr => ?_, fun h => ⟨hb, by omega⟩, by kernel_rfl, ?_⟩
        ·obtain ⟨c, -, rfl⟩ := List.mem_map.1 (List.mem_of_mem_drop (List.mem_of_mem_take hr))
         rfl
        by_cases hm : wdM 0 (c :: t)
        ·rw [if_pos (hw.2 hm)]
         rw [if_pos hm] at hst
         refine ⟨1, by omega, by omega, Le.of id [] ?_⟩
         simp only [bytesD, wordsR, hst, Mt_tup, Mt_agg, Mt_fn, forall_eq, forall_eq_or_imp, ne_eq, List.all_cons, List.all_nil, pr, Nat.reduceLeDiff, slR_nil, slR_cons, hpR_nil, hpR_cells, hpR_row, idsR_nil, idsR_cons, mtE_v, mtE_sl, mtE_nil, mtE_refl, mtE_row, mtE_born, mtE_ptr, mtE_rp, mtE_agg, mtE_tup, mtE_fn, mtE_ep, MtL_nil, MtL_cons, Mt_v, Mt_sl, Mt_nil, Mt_refl, Mt_row, Mt_born, Mt_ptr, MtO_cells, MtO_row, liveIds, distinct, Dat.v.injEq, Dat.sl.injEq, Value.int.injEq, Value.bool.injEq, Value.string.injEq, lk_cons, lk_nil, subL_nil, subL_cons, upIds, AV.ids, AV.ids.idsL, AObj.ids, Hp.get_cons, get_nil, allCell, AV.cell, vInt, vBool, vStr, id, true_and, and_true, and_self, List.append_nil, List.nil_append, List.not_mem_nil, List.mem_cons, or_false, false_or, or_self, not_true_eq_false, not_false_eq_true, false_imp_iff, false_implies, List.map_nil, not_false_eq_true, List.contains_cons, List.contains_nil, Bool.or_false, Bool.false_or, Bool.true_or, Bool.or_true, Bool.and_true, Bool.true_and, implies_true, if_true, if_false, reduceCtorEq, Nat.reduceEqDiff, Nat.reduceBEq, Nat.reduceAdd, reduceIte, ↓reduceIte]
         exact ⟨rfl, ⟨rfl, rfl⟩, rfl⟩
        ·rw [if_neg (fun h => hm (hw.1 h))]
         rw [if_neg hm] at hst
         refine ⟨1, by omega, by omega, Le.of id [] ?_⟩
         simp only [bytesD, wordsR, hst, Mt_tup, Mt_agg, Mt_fn, forall_eq, forall_eq_or_imp, ne_eq, List.all_cons, List.all_nil, pr, Nat.reduceLeDiff, slR_nil, slR_cons, hpR_nil, hpR_cells, hpR_row, idsR_nil, idsR_cons, mtE_v, mtE_sl, mtE_nil, mtE_refl, mtE_row, mtE_born, mtE_ptr, mtE_rp, mtE_agg, mtE_tup, mtE_fn, mtE_ep, MtL_nil, MtL_cons, Mt_v, Mt_sl, Mt_nil, Mt_refl, Mt_row, Mt_born, Mt_ptr, MtO_cells, MtO_row, liveIds, distinct, Dat.v.injEq, Dat.sl.injEq, Value.int.injEq, Value.bool.injEq, Value.string.injEq, lk_cons, lk_nil, subL_nil, subL_cons, upIds, AV.ids, AV.ids.idsL, AObj.ids, Hp.get_cons, get_nil, allCell, AV.cell, vInt, vBool, vStr, id, true_and, and_true, and_self, List.append_nil, List.nil_append, List.not_mem_nil, List.mem_cons, or_false, false_or, or_self, not_true_eq_false, not_false_eq_true, false_imp_iff, false_implies, List.map_nil, not_false_eq_true, List.contains_cons, List.contains_nil, Bool.or_false, Bool.false_or, Bool.true_or, Bool.or_true, Bool.and_true, Bool.true_and, implies_true, if_true, if_false, reduceCtorEq, Nat.reduceEqDiff, Nat.reduceBEq, Nat.reduceAdd, reduceIte, ↓reduceIte]
         exact ⟨rfl, rfl⟩
       ·simp only [bytesD, wordsR, getD_iD, iD, num_iD, nz1, hc, f1, G_rjx_at, calmE, F_val, F_pr, F_goes, F_txj, F_rnb, Int.toNat_natCast, Int.ofNat_zero, Int.cast_ofNat_Int, AV.flat, AV.flat.flatL, List.length_map, Int.reduceLE, Int.reduceLT, Int.reduceGT, Int.reduceGE, Int.reduceBEq, Int.reduceBNe, Int.reduceEq, Int.reduceToNat, Int.reduceSub, Int.reduceAdd, Int.reduceMul, Int.reducePow, Int.reduceNeg, goTG_val, goTG_new, goTG_up, goTG_none, goG_none, goG_new, goG_up, ne_eq, evK, evH, retHF, DRun_mk, runT_nil, runT_none, runT_guard, goT_val, goT_new, goT_store, goTH_true, goTH_false, evO, keys, Option.toList_some, Option.toList_none, nzL_nil, nzL_cons, nz_k, nz_sl, nz_nil, nz_agg, startL, evC, evV, goE_val, goE_new, goE_store, goH_true, goH_false, goG_val, lk_cons, lk_nil, lk_func, lk_int, lk_bool, lk_string, lk_slice, lk_agg, look_mk, St.effOf, eff, effCall, effBinC, isConst, effBin, effUn, effConv, effPick, effNil, effFold, fold1, effLoad, effStore, effFieldAddr, effField, fieldOf, sliceOf, effIndexAddr, effIndex, effLen, effExtract, effSlice, dats, bnd, effBuild, placesOf, effBuildSlice, effMakeSlice, effAppend, srcOf, fillA, chunk, seg, toD, toDs, put, eqAV, fieldsEq, leafEq, strip, unw, allB, selP_or, selP_and, tis, TyD.agg, AV.cells, AV.cell, allCell, vInt, vBool, vStr, subL_nil, subL_cons, upIds, AV.ids, AV.ids.idsL, AObj.ids, drops, Hp.get_cons, get_nil, retF, resL, one, fz, fz.fzL, List.map_cons, List.map_nil, List.nil_append, List.append_nil, List.cons_append, List.all_cons, List.all_nil, List.length_cons, List.length_nil, List.getElem?_cons_zero, List.getElem?_cons_succ, List.getD_cons_zero, List.getD_cons_succ, List.take_succ_cons, List.take_zero, List.drop_succ_cons, List.drop_zero, List.take_nil, List.drop_nil, List.contains_cons, List.contains_nil, Option.getD_some, Option.getD_none, Option.map_some, Option.map_none, if_true, if_false, true_and, and_true, and_self, or_self, or_false, false_or, false_and, and_false, reduceCtorEq, sel_and, sel_or, decide_eq_true_eq, Bool.and_eq_true, Bool.or_eq_true, Bool.and_true, Bool.true_and, Bool.or_false, Bool.false_or, Bool.true_or, Bool.or_true, Bool.not_true, Bool.not_false, Bool.false_eq_true, implies_true, not_false_eq_true, Nat.reduceLT, Nat.reduceEqDiff, Nat.reduceAdd, Nat.reduceMul, Nat.reduceMod, Nat.reduceLeDiff, Nat.reduceBEq, Nat.zero_add, Nat.add_zero, reduceIte, ↓reduceIte, List.not_mem_nil]
        have ew : IntKind.i64.wrap ((k : Int) + (ByteArray.size ⟨#[102, 97, 108, 115, 101]⟩ : Nat)) = ((k + 5 : Nat) : Int) := by rw [show (ByteArray.size ⟨#[102, 97, 108, 115, 101]⟩ : Nat) = 5 from rfl, w64 (by omega) (by omega)]; omega
        have hw := word_cond2 hb k 5 [102, 97, 108, 115, 101] rfl (by decide) ⟨#[102, 97, 108, 115, 101]⟩ (by decide +kernel)
        have e1 : IntKind.i64.wrap 2 = 2 := rfl
        have e9 : IntKind.i64.wrap 10 = 10 := rfl
        rw [h] at hw
        have hst : wst (c :: t) k (sgJ 6 c k) 2 = if wdM 1 (c :: t) then (9 + ((1 : Nat) : Int), ((k + (wdL 1).length : Nat) : Int)) else wst (c :: t) k (sgJ 6 c k) 1 := rfl
        simp only [ew, e1, e9, Int.toNat_natCast]
        refine ⟨fun h => ⟨by omega, by omega, h⟩, fun h r hr => ?_, fun h => ⟨hb, by omega⟩, by kernel_rfl, ?_⟩
        ·obtain ⟨c, -, rfl⟩ := List.mem_map.1 (List.mem_of_mem_drop (List.mem_of_mem_take hr))
         rfl
        by_cases hm : wdM 1 (c :: t)
        ·rw [if_pos (hw.2 hm)]
         rw [if_pos hm] at hst
         refine ⟨2, by omega, by omega, Le.of id [] ?_⟩
         simp only [bytesD, wordsR, hst, Mt_tup, Mt_agg, Mt_fn, forall_eq, forall_eq_or_imp, ne_eq, List.all_cons, List.all_nil, pr, Nat.reduceLeDiff, slR_nil, slR_cons, hpR_nil, hpR_cells, hpR_row, idsR_nil, idsR_cons, mtE_v, mtE_sl, mtE_nil, mtE_refl, mtE_row, mtE_born, mtE_ptr, mtE_rp, mtE_agg, mtE_tup, mtE_fn, mtE_ep, MtL_nil, MtL_cons, Mt_v, Mt_sl, Mt_nil, Mt_refl, Mt_row, Mt_born, Mt_ptr, MtO_cells, MtO_row, liveIds, distinct, Dat.v.injEq, Dat.sl.injEq, Value.int.injEq, Value.bool.injEq, Value.string.injEq, lk_cons, lk_nil, subL_nil, subL_cons, upIds, AV.ids, AV.ids.idsL, AObj.ids, Hp.get_cons, get_nil, allCell, AV.cell, vInt, vBool, vStr, id, true_and, and_true, and_self, List.append_nil, List.nil_append, List.not_mem_nil, List.mem_cons, or_false, false_or, or_self, not_true_eq_false, not_false_eq_true, false_imp_iff, false_implies, List.map_nil, not_false_eq_true, List.contains_cons, List.contains_nil, Bool.or_false, Bool.false_or, Bool.true_or, Bool.or_true, Bool.and_true, Bool.true_and, implies_true, if_true, if_false, reduceCtorEq, Nat.reduceEqDiff, Nat.reduceBEq, Nat.reduceAdd, reduceIte, ↓reduceIte]
         exact ⟨rfl, ⟨rfl, rfl⟩, rfl⟩
        ·rw [if_neg (fun h => hm (hw.1 h))]
         rw [if_neg hm] at hst
         refine ⟨2, by omega, by omega, Le.of id [] ?_⟩
         simp only [bytesD, wordsR, hst, Mt_tup, Mt_agg, Mt_fn, forall_eq, forall_eq_or_imp, ne_eq, List.all_cons, List.all_nil, pr, Nat.reduceLeDiff, slR_nil, slR_cons, hpR_nil, hpR_cells, hpR_row, idsR_nil, idsR_cons, mtE_v, mtE_sl, mtE_nil, mtE_refl, mtE_row, mtE_born, mtE_ptr, mtE_rp, mtE_agg, mtE_tup, mtE_fn, mtE_ep, MtL_nil, MtL_cons, Mt_v, Mt_sl, Mt_nil, Mt_refl, Mt_row, Mt_born, Mt_ptr, MtO_cells, MtO_row, liveIds, distinct, Dat.v.injEq, Dat.sl.injEq, Value.int.injEq, Value.bool.injEq, Value.string.injEq, lk_cons, lk_nil, subL_nil, subL_cons, upIds, AV.ids, AV.ids.idsL, AObj.ids, Hp.get_cons, get_nil, allCell, AV.cell, vInt, vBool, vStr, id, true_and, and_true, and_self, List.append_nil, List.nil_append, List.not_mem_nil, List.mem_cons, or_false, false_or, or_self, not_true_eq_false, not_false_eq_true, false_imp_iff, false_implies, List.map_nil, not_false_eq_true, List.contains_cons, List.contains_nil, Bool.or_false, Bool.false_or, Bool.true_or, Bool.or_true, Bool.and_true, Bool.true_and, implies_true, if_true, if_false, reduceCtorEq, Nat.reduceEqDiff, Nat.reduceBEq, Nat.reduceAdd, reduceIte, ↓reduceIte]
         exact ⟨rfl, rfl⟩
       ·simp only [bytesD, wordsR, getD_iD, iD, num_iD, nz1, hc, f1, G_rjx_at, calmE, F_val, F_pr, F_goes, F_txj, F_rnb, Int.toNat_natCast, Int.ofNat_zero, Int.cast_ofNat_Int, AV.flat, AV.flat.flatL, List.length_map, Int.reduceLE, Int.reduceLT, Int.reduceGT, Int.reduceGE, Int.reduceBEq, Int.reduceBNe, Int.reduceEq, Int.reduceToNat, Int.reduceSub, Int.reduceAdd, Int.reduceMul, Int.reducePow, Int.reduceNeg, goTG_val, goTG_new, goTG_up, goTG_none, goG_none, goG_new, goG_up, ne_eq, evK, evH, retHF, DRun_mk, runT_nil, runT_none, runT_guard, goT_val, goT_new, goT_store, goTH_true, goTH_false, evO, keys, Option.toList_some, Option.toList_none, nzL_nil, nzL_cons, nz_k, nz_sl, nz_nil, nz_agg, startL, evC, evV, goE_val, goE_new, goE_store, goH_true, goH_false, goG_val, lk_cons, lk_nil, lk_func, lk_int, lk_bool, lk_string, lk_slice, lk_agg, look_mk, St.effOf, eff, effCall, effBinC, isConst, effBin, effUn, effConv, effPick, effNil, effFold, fold1, effLoad, effStore, effFieldAddr, effField, fieldOf, sliceOf, effIndexAddr, effIndex, effLen, effExtract, effSlice, dats, bnd, effBuild, placesOf, effBuildSlice, effMakeSlice, effAppend, srcOf, fillA, chunk, seg, toD, toDs, put, eqAV, fieldsEq, leafEq, strip, unw, allB, selP_or, selP_and, tis, TyD.agg, AV.cells, AV.cell, allCell, vInt, vBool, vStr, subL_nil, subL_cons, upIds, AV.ids, AV.ids.idsL, AObj.ids, drops, Hp.get_cons, get_nil, retF, resL, one, fz, fz.fzL, List.map_cons, List.map_nil, List.nil_append, List.append_nil, List.cons_append, List.all_cons, List.all_nil, List.length_cons, List.length_nil, List.getElem?_cons_zero, List.getElem?_cons_succ, List.getD_cons_zero, List.getD_cons_succ, List.take_succ_cons, List.take_zero, List.drop_succ_cons, List.drop_zero, List.take_nil, List.drop_nil, List.contains_cons, List.contains_nil, Option.getD_some, Option.getD_none, Option.map_some, Option.map_none, if_true, if_false, true_and, and_true, and_self, or_self, or_false, false_or, false_and, and_false, reduceCtorEq, sel_and, sel_or, decide_eq_true_eq, Bool.and_eq_true, Bool.or_eq_true, Bool.and_true, Bool.true_and, Bool.or_false, Bool.false_or, Bool.true_or, Bool.or_true, Bool.not_true, Bool.not_false, Bool.false_eq_true, implies_true, not_false_eq_true, Nat.reduceLT, Nat.reduceEqDiff, Nat.reduceAdd, Nat.reduceMul, Nat.reduceMod, Nat.reduceLeDiff, Nat.reduceBEq, Nat.zero_add, Nat.add_zero, reduceIte, ↓reduceIte, List.not_mem_nil]
        have ew : IntKind.i64.wrap ((k : Int) + (ByteArray.size ⟨#[110, 117, 108, 108]⟩ : Nat)) = ((k + 4 : Nat) : Int) := by rw [show (ByteArray.size ⟨#[110, 117, 108, 108]⟩ : Nat) = 4 from rfl, w64 (by omega) (by omega)]; omega
        have hw := word_cond2 hb k 4 [110, 117, 108, 108] rfl (by decide) ⟨#[110, 117, 108, 108]⟩ (by decide +kernel)
        have e1 : IntKind.i64.wrap 3 = 3 := rfl
        have e9 : IntKind.i64.wrap 11 = 11 := rfl
        rw [h] at hw
        have hst : wst (c :: t) k (sgJ 6 c k) 3 = if wdM 2 (c :: t) then (9 + ((2 : Nat) : Int), ((k + (wdL 2).length : Nat) : Int)) else wst (c :: t) k (sgJ 6 c k) 2 := rfl
        simp only [ew, e1, e9, Int.toNat_natCast]
        refine ⟨fun h => ⟨by omega, by omega, h⟩, fun h r hr => ?_, fun h => ⟨hb, by omega⟩, by kernel_rfl, ?_⟩
        ·obtain ⟨c, -, rfl⟩ := List.mem_map.1 (List.mem_of_mem_drop (List.mem_of_mem_take hr))
         rfl
        by_cases hm : wdM 2 (c :: t)
        ·rw [if_pos (hw.2 hm)]
         rw [if_pos hm] at hst
         refine ⟨3, by omega, by omega, Le.of id [] ?_⟩
         simp only [bytesD, wordsR, hst, Mt_tup, Mt_agg, Mt_fn, forall_eq, forall_eq_or_imp, ne_eq, List.all_cons, List.all_nil, pr, Nat.reduceLeDiff, slR_nil, slR_cons, hpR_nil, hpR_cells, hpR_row, idsR_nil, idsR_cons, mtE_v, mtE_sl, mtE_nil, mtE_refl, mtE_row, mtE_born, mtE_ptr, mtE_rp, mtE_agg, mtE_tup, mtE_fn, mtE_ep, MtL_nil, MtL_cons, Mt_v, Mt_sl, Mt_nil, Mt_refl, Mt_row, Mt_born, Mt_ptr, MtO_cells, MtO_row, liveIds, distinct, Dat.v.injEq, Dat.sl.injEq, Value.int.injEq, Value.bool.injEq, Value.string.injEq, lk_cons, lk_nil, subL_nil, subL_cons, upIds, AV.ids, AV.ids.idsL, AObj.ids, Hp.get_cons, get_nil, allCell, AV.cell, vInt, vBool, vStr, id, true_and, and_true, and_self, List.append_nil, List.nil_append, List.not_mem_nil, List.mem_cons, or_false, false_or, or_self, not_true_eq_false, not_false_eq_true, false_imp_iff, false_implies, List.map_nil, not_false_eq_true, List.contains_cons, List.contains_nil, Bool.or_false, Bool.false_or, Bool.true_or, Bool.or_true, Bool.and_true, Bool.true_and, implies_true, if_true, if_false, reduceCtorEq, Nat.reduceEqDiff, Nat.reduceBEq, Nat.reduceAdd, reduceIte, ↓reduceIte]
         exact ⟨rfl, ⟨rfl, rfl⟩, rfl⟩
        ·rw [if_neg (fun h => hm (hw.1 h))]
         rw [if_neg hm] at hst
         refine ⟨3, by omega, by omega, Le.of id [] ?_⟩
         simp only [bytesD, wordsR, hst, Mt_tup, Mt_agg, Mt_fn, forall_eq, forall_eq_or_imp, ne_eq, List.all_cons, List.all_nil, pr, Nat.reduceLeDiff, slR_nil, slR_cons, hpR_nil, hpR_cells, hpR_row, idsR_nil, idsR_cons, mtE_v, mtE_sl, mtE_nil, mtE_refl, mtE_row, mtE_born, mtE_ptr, mtE_rp, mtE_agg, mtE_tup, mtE_fn, mtE_ep, MtL_nil, MtL_cons, Mt_v, Mt_sl, Mt_nil, Mt_refl, Mt_row, Mt_born, Mt_ptr, MtO_cells, MtO_row, liveIds, distinct, Dat.v.injEq, Dat.sl.injEq, Value.int.injEq, Value.bool.injEq, Value.string.injEq, lk_cons, lk_nil, subL_nil, subL_cons, upIds, AV.ids, AV.ids.idsL, AObj.ids, Hp.get_cons, get_nil, allCell, AV.cell, vInt, vBool, vStr, id, true_and, and_true, and_self, List.append_nil, List.nil_append, List.not_mem_nil, List.mem_cons, or_false, false_or, or_self, not_true_eq_false, not_false_eq_true, false_imp_iff, false_implies, List.map_nil, not_false_eq_true, List.contains_cons, List.contains_nil, Bool.or_false, Bool.false_or, Bool.true_or, Bool.or_true, Bool.and_true, Bool.true_and, implies_true, if_true, if_false, reduceCtorEq, Nat.reduceEqDiff, Nat.reduceBEq, Nat.reduceAdd, reduceIte, ↓reduceIte]
         exact ⟨rfl, rfl⟩
       ·simp only [bytesD, wordsR, getD_iD, iD, num_iD, nz1, hc, f1, G_rjx_at, calmE, F_val, F_pr, F_goes, F_txj, F_rnb, Int.toNat_natCast, Int.ofNat_zero, Int.cast_ofNat_Int, AV.flat, AV.flat.flatL, List.length_map, Int.reduceLE, Int.reduceLT, Int.reduceGT, Int.reduceGE, Int.reduceBEq, Int.reduceBNe, Int.reduceEq, Int.reduceToNat, Int.reduceSub, Int.reduceAdd, Int.reduceMul, Int.reducePow, Int.reduceNeg, goTG_val, goTG_new, goTG_up, goTG_none, goG_none, goG_new, goG_up, ne_eq, evK, evH, retHF, DRun_mk, runT_nil, runT_none, runT_guard, goT_val, goT_new, goT_store, goTH_true, goTH_false, evO, keys, Option.toList_some, Option.toList_none, nzL_nil, nzL_cons, nz_k, nz_sl, nz_nil, nz_agg, startL, evC, evV, goE_val, goE_new, goE_store, goH_true, goH_false, goG_val, lk_cons, lk_nil, lk_func, lk_int, lk_bool, lk_string, lk_slice, lk_agg, look_mk, St.effOf, eff, effCall, effBinC, isConst, effBin, effUn, effConv, effPick, effNil, effFold, fold1, effLoad, effStore, effFieldAddr, effField, fieldOf, sliceOf, effIndexAddr, effIndex, effLen, effExtract, effSlice, dats, bnd, effBuild, placesOf, effBuildSlice, effMakeSlice, effAppend, srcOf, fillA, chunk, seg, toD, toDs, put, eqAV, fieldsEq, leafEq, strip, unw, allB, selP_or, selP_and, tis, TyD.agg, AV.cells, AV.cell, allCell, vInt, vBool, vStr, subL_nil, subL_cons, upIds, AV.ids, AV.ids.idsL, AObj.ids, drops, Hp.get_cons, get_nil, retF, resL, one, fz, fz.fzL, List.map_cons, List.map_nil, List.nil_append, List.append_nil, List.cons_append, List.all_cons, List.all_nil, List.length_cons, List.length_nil, List.getElem?_cons_zero, List.getElem?_cons_succ, List.getD_cons_zero, List.getD_cons_succ, List.take_succ_cons, List.take_zero, List.drop_succ_cons, List.drop_zero, List.take_nil, List.drop_nil, List.contains_cons, List.contains_nil, Option.getD_some, Option.getD_none, Option.map_some, Option.map_none, if_true, if_false, true_and, and_true, and_self, or_self, or_false, false_or, false_and, and_false, reduceCtorEq, sel_and, sel_or, decide_eq_true_eq, Bool.and_eq_true, Bool.or_eq_true, Bool.and_true, Bool.true_and, Bool.or_false, Bool.false_or, Bool.true_or, Bool.or_true, Bool.not_true, Bool.not_false, Bool.false_eq_true, implies_true, not_false_eq_true, Nat.reduceLT, Nat.reduceEqDiff, Nat.reduceAdd, Nat.reduceMul, Nat.reduceMod, Nat.reduceLeDiff, Nat.reduceBEq, Nat.zero_add, Nat.add_zero, reduceIte, ↓reduceIte, List.not_mem_nil]
        simp only [beq_iff_eq]
        refine ⟨by omega, ?_⟩
        by_cases q3 : c = 34
        ·rw [if_pos q3]
         refine ⟨⟨hb, by omega, by omega, by omega⟩, ?_⟩
         have htok : Jlex.tok (c :: t) = (7, (Jlex.textLen t).map (· + 1)) := by
          rw [q3]; rfl
         have hto : ansN (k + 1) (Jlex.textLen (l.drop (k + 1))) = ansN k ((Jlex.textLen t).map (· + 1)) := by rw [drop_tail h, ansN_map]
         simp only [hto]
         rcases hO : (Jlex.textLen t).map (· + 1) with _ | n
         ·rw [if_pos (show ansN k (none : Option Nat) < 0 from (by decide : (-1 : Int) < 0))]
          rw [hO] at htok
          have h2 := Jlex.Toks.bad (b := []) (i := (k : Int)) (fun x hx => by cases hx) c1 (by rw [htok])
          have h3 := hr _ _ h2
          rw [List.append_nil] at h3
          rw [splitF_bad h20 hv h3]
          simp only [List.length_nil, Int.ofNat_zero, Int.add_zero, Int.cast_ofNat_Int]
          exact Sub.tup ⟨.inr ⟨rfl, 3, rfl⟩, ⟨.inl rfl, .inl rfl, trivial⟩, trivial⟩
         ·rw [hO] at htok
          have hm := Jlex.tok_le htok
          rw [List.length_cons] at hm
          have e : ansN k (some n) = ((k + n : Nat) : Int) := rfl
          rw [if_neg (show ¬ ansN k (some n) < 0 by rw [e]; omega)]
          simp only [e]
          refine ⟨by omega, (o ++ [(7, (k : Int), ((k + n : Nat) : Int))], k + n), by simp only []; omega, ⟨by simp only []; omega, by simp only [List.length_append, List.length_cons, List.length_nil]; omega, fun ts e h2 => ?_⟩, Le.of (fun i => if i = 100 then 145 else i) [] ?_⟩
          ·have hd : (c :: t).drop n = l.drop (k + n) := by rw [← h, List.drop_drop]
           have h4 := Jlex.Toks.cons (b := []) (i := (k : Int)) (ts := ts) (e := e) (fun x hx => by cases hx) c1 htok (by
            rw [hd]
            simp only [List.length_nil, Int.ofNat_zero, Int.add_zero, Int.cast_ofNat_Int]
            rwa [← Int.natCast_add])
           have h5 := hr _ _ h4
           simp only [List.length_nil, Int.ofNat_zero, Int.add_zero, Int.cast_ofNat_Int] at h5
           simp only []
           rw [List.append_assoc]
           rwa [← Int.natCast_add] at h5
          ·simp only [bytesD, wordsR, List.map_append, List.map_cons, List.map_nil, List.length_append, List.length_map, List.length_cons, List.length_nil, tkR, Mt_tup, Mt_agg, Mt_fn, forall_eq, forall_eq_or_imp, ne_eq, List.all_cons, List.all_nil, pr, Nat.reduceLeDiff, slR_nil, slR_cons, hpR_nil, hpR_cells, hpR_row, idsR_nil, idsR_cons, mtE_v, mtE_sl, mtE_nil, mtE_refl, mtE_row, mtE_born, mtE_ptr, mtE_rp, mtE_agg, mtE_tup, mtE_fn, mtE_ep, MtL_nil, MtL_cons, Mt_v, Mt_sl, Mt_nil, Mt_refl, Mt_row, Mt_born, Mt_ptr, MtO_cells, MtO_row, liveIds, distinct, Dat.v.injEq, Dat.sl.injEq, Value.int.injEq, Value.bool.injEq, Value.string.injEq, lk_cons, lk_nil, subL_nil, subL_cons, upIds, AV.ids, AV.ids.idsL, AObj.ids, Hp.get_cons, get_nil, allCell, AV.cell, vInt, vBool, vStr, id, true_and, and_true, and_self, List.append_nil, List.nil_append, List.not_mem_nil, List.mem_cons, or_false, false_or, or_self, not_true_eq_false, not_false_eq_true, false_imp_iff, false_implies, List.map_nil, not_false_eq_true, List.contains_cons, List.contains_nil, Bool.or_false, Bool.false_or, Bool.true_or, Bool.or_true, Bool.and_true, Bool.true_and, implies_true, if_true, if_false, reduceCtorEq, Nat.reduceEqDiff, Nat.reduceBEq, Nat.reduceAdd, reduceIte, ↓reduceIte]
           rfl
        rw [if_neg q3]
        refine ⟨by omega, fun _ => by omega, fun _ => by omega, ?_⟩
        by_cases q4 : c = 45 ∨ c ≥ 48 ∧ c ≤ 57
        ·rw [if_pos q4]
         refine ⟨⟨hb, by omega, by omega, by omega⟩, ?_⟩
         have htok : Jlex.tok (c :: t) = (8, Jlex.numLen (c :: t)) := by
          have hs : Jlex.sign c = none := by unfold Jlex.sign; (repeat' rw [if_neg (by omega)])
          unfold Jlex.tok
          simp only [hs]
          rw [if_neg q3, if_pos (by unfold Jlex.dig; rw [decide_eq_true_eq]; omega)]
         rw [h]
         rcases hO : Jlex.numLen (c :: t) with _ | n
         ·rw [if_pos (show ansN k (none : Option Nat) < 0 from (by decide : (-1 : Int) < 0))]
          rw [hO] at htok
          have h2 := Jlex.Toks.bad (b := []) (i := (k : Int)) (fun x hx => by cases hx) c1 (by rw [htok])
          have h3 := hr _ _ h2
          rw [List.append_nil] at h3
          rw [splitF_bad h20 hv h3]
          simp only [List.length_nil, Int.ofNat_zero, Int.add_zero, Int.cast_ofNat_Int]
          exact Sub.tup ⟨.inr ⟨rfl, 3, rfl⟩, ⟨.inl rfl, .inl rfl, trivial⟩, trivial⟩
         ·rw [hO] at htok
          have hm := Jlex.tok_le htok
          rw [List.length_cons] at hm
          have e : ansN k (some n) = ((k + n : Nat) : Int) := rfl
          rw [if_neg (show ¬ ansN k (some n) < 0 by rw [e]; omega)]
          simp only [e]
          refine ⟨by omega, (o ++ [(8, (k : Int), ((k + n : Nat) : Int))], k + n), by simp only []; omega, ⟨by simp only []; omega, by simp only [List.length_append, List.length_cons, List.length_nil]; omega, fun ts e h2 => ?_⟩, Le.of (fun i => if i = 100 then 145 else i) [] ?_⟩
          ·have hd : (c :: t).drop n = l.drop (k + n) := by rw [← h, List.drop_drop]
           have h4 := Jlex.Toks.cons (b := []) (i := (k : Int)) (ts := ts) (e := e) (fun x hx => by cases hx) c1 htok (by
            rw [hd]
            simp only [List.length_nil, Int.ofNat_zero, Int.add_zero, Int.cast_ofNat_Int]
            rwa [← Int.natCast_add])
           have h5 := hr _ _ h4
           simp only [List.length_nil, Int.ofNat_zero, Int.add_zero, Int.cast_ofNat_Int] at h5
           simp only []
           rw [List.append_assoc]
           rwa [← Int.natCast_add] at h5
          ·simp only [bytesD, wordsR, List.map_append, List.map_cons, List.map_nil, List.length_append, List.length_map, List.length_cons, List.length_nil, tkR, Mt_tup, Mt_agg, Mt_fn, forall_eq, forall_eq_or_imp, ne_eq, List.all_cons, List.all_nil, pr, Nat.reduceLeDiff, slR_nil, slR_cons, hpR_nil, hpR_cells, hpR_row, idsR_nil, idsR_cons, mtE_v, mtE_sl, mtE_nil, mtE_refl, mtE_row, mtE_born, mtE_ptr, mtE_rp, mtE_agg, mtE_tup, mtE_fn, mtE_ep, MtL_nil, MtL_cons, Mt_v, Mt_sl, Mt_nil, Mt_refl, Mt_row, Mt_born, Mt_ptr, MtO_cells, MtO_row, liveIds, distinct, Dat.v.injEq, Dat.sl.injEq, Value.int.injEq, Value.bool.injEq, Value.string.injEq, lk_cons, lk_nil, subL_nil, subL_cons, upIds, AV.ids, AV.ids.idsL, AObj.ids, Hp.get_cons, get_nil, allCell, AV.cell, vInt, vBool, vStr, id, true_and, and_true, and_self, List.append_nil, List.nil_append, List.not_mem_nil, List.mem_cons, or_false, false_or, or_self, not_true_eq_false, not_false_eq_true, false_imp_iff, false_implies, List.map_nil, not_false_eq_true, List.contains_cons, List.contains_nil, Bool.or_false, Bool.false_or, Bool.true_or, Bool.or_true, Bool.and_true, Bool.true_and, implies_true, if_true, if_false, reduceCtorEq, Nat.reduceEqDiff, Nat.reduceBEq, Nat.reduceAdd, reduceIte, ↓reduceIte]
           rfl
        rw [if_neg q4, wst_tok q3 (by unfold Jlex.dig; rw [decide_eq_true_eq]; omega)]
        have htok : Jlex.tok (c :: t) = ((Jlex.tok (c :: t)).1, (Jlex.tok (c :: t)).2) := rfl
        generalize (Jlex.tok (c :: t)).1 = kd at htok ⊢
        generalize (Jlex.tok (c :: t)).2 = O at htok ⊢
        simp only []
        rcases hO : O with _ | n
        ·rw [if_pos (show ansN k (none : Option Nat) < 0 from (by decide : (-1 : Int) < 0))]
         rw [hO] at htok
         have h2 := Jlex.Toks.bad (b := []) (i := (k : Int)) (fun x hx => by cases hx) c1 (by rw [htok])
         have h3 := hr _ _ h2
         rw [List.append_nil] at h3
         rw [splitF_bad h20 hv h3]
         simp only [List.length_nil, Int.ofNat_zero, Int.add_zero, Int.cast_ofNat_Int]
         exact Sub.tup ⟨.inr ⟨rfl, 3, rfl⟩, ⟨.inl rfl, .inl rfl, trivial⟩, trivial⟩
        ·rw [hO] at htok
         have hm := Jlex.tok_le htok
         rw [List.length_cons] at hm
         have e : ansN k (some n) = ((k + n : Nat) : Int) := rfl
         rw [if_neg (show ¬ ansN k (some n) < 0 by rw [e]; omega)]
         simp only [e]
         refine ⟨by omega, (o ++ [(kd, (k : Int), ((k + n : Nat) : Int))], k + n), by simp only []; omega, ⟨by simp only []; omega, by simp only [List.length_append, List.length_cons, List.length_nil]; omega, fun ts e h2 => ?_⟩, Le.of (fun i => if i = 100 then 145 else i) [] ?_⟩
         ·have hd : (c :: t).drop n = l.drop (k + n) := by rw [← h, List.drop_drop]
          have h4 := Jlex.Toks.cons (b := []) (i := (k : Int)) (ts := ts) (e := e) (fun x hx => by cases hx) c1 htok (by
           rw [hd]
           simp only [List.length_nil, Int.ofNat_zero, Int.add_zero, Int.cast_ofNat_Int]
           rwa [← Int.natCast_add])
          have h5 := hr _ _ h4
          simp only [List.length_nil, Int.ofNat_zero, Int.add_zero, Int.cast_ofNat_Int] at h5
          simp only []
          rw [List.append_assoc]
          rwa [← Int.natCast_add] at h5
         ·simp only [bytesD, wordsR, List.map_append, List.map_cons, List.map_nil, List.length_append, List.length_map, List.length_cons, List.length_nil, tkR, Mt_tup, Mt_agg, Mt_fn, forall_eq, forall_eq_or_imp, ne_eq, List.all_cons, List.all_nil, pr, Nat.reduceLeDiff, slR_nil, slR_cons, hpR_nil, hpR_cells, hpR_row, idsR_nil, idsR_cons, mtE_v, mtE_sl, mtE_nil, mtE_refl, mtE_row, mtE_born, mtE_ptr, mtE_rp, mtE_agg, mtE_tup, mtE_fn, mtE_ep, MtL_nil, MtL_cons, Mt_v, Mt_sl, Mt_nil, Mt_refl, Mt_row, Mt_born, Mt_ptr, MtO_cells, MtO_row, liveIds, distinct, Dat.v.injEq, Dat.sl.injEq, Value.int.injEq, Value.bool.injEq, Value.string.injEq, lk_cons, lk_nil, subL_nil, subL_cons, upIds, AV.ids, AV.ids.idsL, AObj.ids, Hp.get_cons, get_nil, allCell, AV.cell, vInt, vBool, vStr, id, true_and, and_true, and_self, List.append_nil, List.nil_append, List.not_mem_nil, List.mem_cons, or_false, false_or, or_self, not_true_eq_false, not_false_eq_true, false_imp_iff, false_implies, List.map_nil, not_false_eq_true, List.contains_cons, List.contains_nil, Bool.or_false, Bool.false_or, Bool.true_or, Bool.or_true, Bool.and_true, Bool.true_and, implies_true, if_true, if_false, reduceCtorEq, Nat.reduceEqDiff, Nat.reduceBEq, Nat.reduceAdd, reduceIte, ↓reduceIte]
          rfl
  ·rw [if_neg (by omega)]
   have hk2 : k = l.length := by omega
   have h2 := hr [] none (by rw [List.drop_eq_nil_of_le (by omega)]; exact Jlex.Toks.nil (fun x hx => by cases hx))
   rw [List.append_nil] at h2
   rw [splitF_ok h20 hv h2]
   exact Sub.refl _
theorem rjx_calm : ∀ args sc res, F_spj args = some (sc, res) → sc → Calm Try.prog 30 args res := by
 intro args sc res h hs
 unfold F_spj at h
 split at h <;> cases h
 rename_i xs
 obtain ⟨h1, hb⟩ := hs
 have hq := rjx_body (xs.map numOf) hb
 rw [bytesD, ← h1] at hq
 exact known_G_rjx.calm mixed rfl rfl hq
end Go.Proofs.Ytgbialeahdoelaa.Eng

end
