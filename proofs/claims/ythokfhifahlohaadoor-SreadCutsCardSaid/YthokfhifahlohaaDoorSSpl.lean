/- strings.Split at one byte, on the small machine. -/
import Derived.Test.YthokfhifahlohaaDoorSpl
import Derived.Test.YthokfhifahlohaaDoorSBy
namespace Go.Proofs.YthokfhifahlohaaDoor.Eng
open Go Go.Proofs.YthokfhifahlohaaDoor.Base
set_option maxRecDepth 100000
set_option linter.unusedSimpArgs false
set_option linter.unusedVariables false
/-- A text, cut at each such letter. -/
def splitU (c : UInt8) : List UInt8 → List (List UInt8)
  | [] => [[]]
  | b :: l => if b = c then [] :: splitU c l else match splitU c l with
    | [] => [[b]]
    | x :: xs => (b :: x) :: xs
theorem splitU_ne (c : UInt8) : ∀ l, splitU c l ≠ []
  | [] => by simp [splitU]
  | b :: l => by
    rw [splitU]
    split
    · simp
    · split <;> simp
theorem splitK_U (c : UInt8) : ∀ l : List UInt8, Lib.splitK [c] 0 (l.count c) l = splitU c l
  | [] => rfl
  | b :: l => by
    have ih := splitK_U c l
    rw [splitU]
    by_cases h : b = c
    · subst h
      rw [if_pos rfl, List.count_cons_self, Lib.splitK]
      have hix : Lib.index (b :: l) [b] = 0 := by rw [Lib.index]; simp [List.isPrefixOf]
      rw [hix, if_neg (by decide)]
      simp only [Int.toNat_zero, Nat.zero_add, List.take_zero, List.length_singleton, List.drop_succ_cons, List.drop_zero]
      rw [ih]
    · rw [if_neg h, List.count_cons_of_ne (by simpa using h)]
      have hp : ([c] : List UInt8).isPrefixOf (b :: l) = false := by simp [List.isPrefixOf, Ne.symm h]
      have hix : Lib.index (b :: l) [c] = if Lib.index l [c] == -1 then -1 else Lib.index l [c] + 1 := by rw [Lib.index, hp]; simp
      cases hk : l.count c with
      | zero =>
        rw [hk] at ih
        rw [← ih]; rfl
      | succ k =>
        rw [hk] at ih
        have hm : ¬ Lib.index l [c] = -1 := fun e => by
          have := Lib.count_miss e
          rw [Lib.count_one] at this
          omega
        have hge := Lib.index_ge l [c]
        have hb : ¬ ((Lib.index l [c] == -1) = true) := fun e => hm (beq_iff_eq.1 e)
        rw [Lib.splitK, if_neg hb] at ih
        rw [← ih, Lib.splitK, hix, if_neg hb]
        rw [if_neg (by simp only [beq_iff_eq]; omega)]
        obtain ⟨j, hj⟩ : ∃ j : Nat, Lib.index l [c] = j := ⟨(Lib.index l [c]).toNat, by omega⟩
        rw [hj, show ((j : Int) + 1).toNat = j + 1 by omega, Int.toNat_natCast]
        simp only [Nat.add_zero, List.take_succ_cons, List.length_singleton, List.drop_succ_cons, Nat.add_assoc]
def strD (l : List UInt8) : List Dat := [.v (.string ⟨l.toArray⟩)]
theorem splitB_U (c : UInt8) (s : ByteArray) : Lib.splitB ⟨#[c]⟩ 0 (Lib.countB s ⟨#[c]⟩) s = (splitU c s.data.toList).map fun l => ⟨l.toArray⟩ := by
  have h1 := Lib.splitB_data ⟨#[c]⟩ 0 (Lib.countB s ⟨#[c]⟩) s
  have h2 : Lib.countB s ⟨#[c]⟩ = s.data.toList.count c := by
    show Lib.count s.data.toList [c] = _
    rw [Lib.count_one]
  rw [h2] at h1 ⊢
  have h3 : (⟨#[c]⟩ : ByteArray).data.toList = [c] := rfl
  rw [h3, splitK_U] at h1
  rw [← h1, List.map_map]
  conv => lhs; rw [← List.map_id (Lib.splitB _ _ _ _)]
  exact List.map_congr_left fun x _ => by cases x; rfl
def F_gs : List AV → Option (Prop × AV)
  | [.d (.v (.string s)), .d (.v (.string p)), .d (.v (.int .i64 0)), .d (.v (.int .i64 (-1)))] => some (p.size = 1 ∧ s.size < 4294967281, .d (.sl 1 ((splitU (p.data.toList.headD 0) s.data.toList).map strD)))
  | _ => none
theorem gs_calm : ∀ args sc res, F_gs args = some (sc, res) → sc → Calm Tryd.prog 16 args res := by
  intro args sc res h hs
  unfold F_gs at h
  split at h <;> cases h
  rename_i s p
  obtain ⟨h1, h2⟩ := hs
  obtain ⟨c, rfl⟩ := Lib.one_byte p h1
  refine ⟨⟨_, Tryd.func16, by kernel_rfl, by kernel_rfl⟩, rfl, fun C m w hp vals I hsz hv => ?_⟩
  obtain ⟨u0, u1, u2, u3, rfl⟩ : ∃ u0 u1 u2 u3, vals = #[u0, u1, u2, u3] := by
    have h1 : vals.size = 4 := hsz
    obtain ⟨l⟩ := vals
    match l, h1 with
    | [u0, u1, u2, u3], _ => exact ⟨u0, u1, u2, u3, rfl⟩
  have e0 := hv 0 u0 _ rfl rfl
  have e1 := hv 1 u1 _ rfl rfl
  have e2 := hv 2 u2 _ rfl rfl
  have e3 := hv 3 u3 _ rfl rfl
  cases e0 with
  | d e0 =>
  cases e0
  cases e1 with
  | d e1 =>
  cases e1
  cases e2 with
  | d e2 =>
  cases e2
  cases e3 with
  | d e3 =>
  cases e3
  refine (Tryd.gsplit s c w h2).mono fun e w' ⟨q1, q2⟩ => ?_
  subst q2
  have hold : ∀ k, k < w.heap.size → (w.alloc (.cells ((Lib.splitB ⟨#[c]⟩ 0 (Lib.countB s ⟨#[c]⟩) s).map Value.string).toArray 9)).heap[k]? = w.heap[k]? := fun k hk => heap_alloc_old w _ hk
  have hl := Lib.splitB_all ⟨#[c]⟩ (Nat.le_refl 1) 0 _ s rfl
  refine ⟨_, q1, rfl, rfl, rfl, by simp, hold, .d ?_⟩
  have hh : (⟨#[c]⟩ : ByteArray).data.toList.headD 0 = c := rfl
  rw [hh]
  have hU := splitB_U c s
  have hn : Lib.countB s ⟨#[c]⟩ + 1 = (splitU c s.data.toList).length := by rw [← hl, hU, List.length_map]
  rw [hU, hn]
  generalize splitU c s.data.toList = L at hn ⊢
  have him : ∀ b, b = w.heap.size → im C m (w.alloc (.cells ((L.map fun l => (⟨l.toArray⟩ : ByteArray)).map Value.string).toArray 9)) hp b := fun b hb => by
    subst hb
    refine ⟨by simp, .inr (.inr I.size), fun o obj ho e => ?_⟩
    have := (I.live o obj ho).blk_lt _ e
    omega
  refine .sl (fun i _ => .string ⟨(L.getD i []).toArray⟩) (fun _ => rfl) (by rw [List.length_map]) (Nat.le_refl _) (fun _ => him _ rfl) (fun i r hr => ?_) (fun i j r x hr hx => ?_) (fun i j r x hr hx => ?_)
  · rw [List.getElem?_map] at hr
    cases hL : L[i]? with
    | none => rw [hL] at hr; cases hr
    | some l => rw [hL] at hr; cases hr; rfl
  · rw [List.getElem?_map] at hr
    cases hL : L[i]? with
    | none => rw [hL] at hr; cases hr
    | some l =>
      rw [hL] at hr; cases hr
      have hj : j = 0 := by
        have := (List.getElem?_eq_some_iff.1 hx).1
        simp [strD] at this
        exact this
      subst hj
      have ea : (⟨w.heap.size, 0, none⟩ : Addr).add (i * 1 + 0) = ⟨w.heap.size, i, none⟩ := by
        rw [addr_eta _ rfl]; simp
      rw [ea, World.cell?_alloc_new]
      simp only [List.getElem?_toArray, List.getElem?_map, hL, Option.map_some, List.getD_eq_getElem?_getD, Option.getD_some]
  · rw [List.getElem?_map] at hr
    cases hL : L[i]? with
    | none => rw [hL] at hr; cases hr
    | some l =>
      rw [hL] at hr; cases hr
      have hj : j = 0 := by
        have := (List.getElem?_eq_some_iff.1 hx).1
        simp [strD] at this
        exact this
      subst hj
      simp only [strD, List.getElem?_cons_zero, Option.some.injEq] at hx
      subst hx
      have : L.getD i [] = l := by rw [List.getD_eq_getElem?_getD, hL]; rfl
      rw [this]
      exact .v rfl
def F_split : List AV → Option (Prop × AV)
  | [.d (.v (.string s)), .d (.v (.string p))] => some (p.size = 1 ∧ s.size < 4294967281, .d (.sl 1 ((splitU (p.data.toList.headD 0) s.data.toList).map strD)))
  | _ => none
noncomputable def G_spl : Gam := Gam.none.add 16 fun a => F_gs (NT.nz.nzL [] a)
theorem G_spl_at (h : Nat → Option AObj) (d : Nat) (a : List AV) : G_spl 16 h d a = calmE (fun a => F_gs (NT.nz.nzL [] a)) h a := rfl
theorem split_body (s p : ByteArray) (h1 : p.size = 1) (h2 : s.size < 4294967281) : Body Tryd.prog G_spl (DRun Tryd.prog G_spl) 12 [vStr s, vStr p] (.d (.sl 1 ((splitU (p.data.toList.headD 0) s.data.toList).map strD))) := by
  refine Body.of Tryd.func12 Tryd.ntmps12 (by kernel_rfl) rfl rfl rfl ?_
  simp only [G_spl_at, calmE, F_gs, AV.flat, AV.flat.flatL, List.length_map, goTG_val, goTG_new, goTG_up, goTG_none, goG_none, goG_new, goG_up, ne_eq, evK, evH, retHF, DRun_mk, runT_nil, runT_none, runT_guard, goT_val, goT_new, goT_store, goTH_true, goTH_false, evO, keys, Option.toList_some, Option.toList_none, nzL_nil, nzL_cons, nz_k, nz_sl, nz_nil, nz_agg, startL, evC, evV, goE_val, goE_new, goE_store, goH_true, goH_false, goG_val, lk_cons, lk_nil, lk_func, lk_int, lk_bool, lk_string, lk_slice, lk_agg, look_mk, St.effOf, eff, effCall, effBin, effUn, effConv, effPick, effNil, effFold, fold1, effLoad, effStore, effFieldAddr, effField, fieldOf, sliceOf, effIndexAddr, effIndex, effLen, effExtract, effSlice, bnd, effBuild, placesOf, effBuildSlice, effMakeSlice, effAppend, srcOf, fillA, chunk, seg, toD, toDs, put, eqAV, fieldsEq, leafEq, strip, unw, allB, selP_or, selP_and, tis, TyD.agg, AV.cells, AV.cell, allCell, vInt, vBool, vStr, subL_nil, subL_cons, upIds, AV.ids, AV.ids.idsL, AObj.ids, drops, Hp.get_cons, get_nil, retF, resL, one, fz, fz.fzL, List.map_cons, List.map_nil, List.nil_append, List.append_nil, List.cons_append, List.all_cons, List.all_nil, List.length_cons, List.length_nil, List.getElem?_cons_zero, List.getElem?_cons_succ, List.getD_cons_zero, List.getD_cons_succ, List.take_succ_cons, List.take_zero, List.drop_succ_cons, List.drop_zero, List.take_nil, List.drop_nil, List.contains_cons, List.contains_nil, Option.getD_some, Option.getD_none, Option.map_some, Option.map_none, if_true, if_false, true_and, and_true, and_self, or_self, or_false, false_or, false_and, and_false, reduceCtorEq, sel_and, sel_or, decide_eq_true_eq, Bool.and_eq_true, Bool.or_eq_true, Bool.and_true, Bool.true_and, Bool.or_false, Bool.false_or, Bool.true_or, Bool.or_true, Bool.not_true, Bool.not_false, Bool.false_eq_true, implies_true, not_false_eq_true, Nat.reduceLT, Nat.reduceEqDiff, Nat.reduceAdd, Nat.reduceMul, Nat.reduceMod, Nat.reduceLeDiff, Nat.reduceBEq, Nat.zero_add, Nat.add_zero, reduceIte, ↓reduceIte, List.not_mem_nil]
  exact ⟨⟨h1, h2⟩, Sub.refl _⟩
theorem split_calm : ∀ args sc res, F_split args = some (sc, res) → sc → Calm Tryd.prog 12 args res := by
  intro args sc res h hs
  unfold F_split at h
  split at h <;> cases h
  exact ((Known.none _).addC _ gs_calm).calm mixed rfl rfl (split_body _ _ hs.1 hs.2)
end Go.Proofs.YthokfhifahlohaaDoor.Eng
