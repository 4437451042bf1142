/- SmapJson: part 5 of 15. -/
import Derived.Test.YtgbialeahdoelaaBSmapJsond
import Derived.Laws.BitsLemmas
import Derived.Shelf.Small.Strs
import Derived.Test.YtgbialeahdoelaaProg
section
namespace Go.Proofs.Ytgbialeahdoelaa.Eng
open Go Go.Proofs.Ytgbialeahdoelaa.Base
set_option maxRecDepth 100000
set_option linter.unusedSimpArgs false
def iD (k : IntKind) (n : Int) : List Dat := [.v (.int k n)]
def bytesD (l : List Int) : Dat := .sl 1 (l.map (iD .u8))
def intsD (l : List Int) : Dat := .sl 1 (l.map (iD .i64))
def numOf : List Dat → Int
 | [.v (.int _ n)] => n
 | _ => 0
theorem getD_iD (k : IntKind) (l : List Int) (i : Nat) (n0 : Int) : (l.map (iD k)).getD i [.v (.int k n0)] = iD k (l.getD i n0) := by
 rw [show ([.v (.int k n0)] : List Dat) = iD k n0 from rfl]
 simp only [List.getD_eq_getElem?_getD, List.getElem?_map]
 cases l[i]? <;> rfl
theorem num_iD (k : IntKind) (l : List Int) : (l.map (iD k)).map numOf = l := by
 induction l with
 | nil => rfl
 | cons a l ih => simp only [List.map_cons, ih]; rfl
def lead (c : Int) : Int × Int := if c < 128 then (1, c) else if 194 ≤ c ∧ c < 224 then (2, c - 192) else if 224 ≤ c ∧ c < 240 then (3, c - 224) else if 240 ≤ c ∧ c < 245 then (4, c - 240) else (0, 0)
def F_lead : List AV → Option (Prop × AV)
 | [.d (.v (.int .u8 c))] => some (0 ≤ c ∧ c < 256, .tup [vInt .i64 (lead c).1, vInt .i64 (lead c).2])
 | _ => none
theorem w64 {n : Int} (h0 : -9223372036854775808 ≤ n) (h1 : n ≤ 9223372036854775807) : IntKind.i64.wrap n = n := by rw [IntKind.wrap_i64]; omega
theorem lead_body {Γ : Gam} (c : Int) (h0 : 0 ≤ c) (h1 : c < 256) : Body Try.prog Γ (DRun Try.prog Γ) 80 [.d (.v (.int .u8 c))] (.tup [vInt .i64 (lead c).1, vInt .i64 (lead c).2]) := by
 refine Body.of Try.func80 Try.ntmps80 (by kernel_rfl) rfl rfl rfl ?_
 simp only [goTG_val, goTG_new, goTG_up, goTG_none, goG_none, goG_new, goG_up, ne_eq, evK, evH, retHF, DRun_mk, runT_nil, runT_none, runT_guard, goT_val, goT_new, goT_store, goTH_true, goTH_false, evO, keys, Option.toList_some, Option.toList_none, nzL_nil, nzL_cons, nz_k, nz_sl, nz_nil, nz_agg, startL, evC, evV, goE_val, goE_new, goE_store, goH_true, goH_false, goG_val, lk_cons, lk_nil, lk_func, lk_int, lk_bool, lk_string, lk_slice, lk_agg, look_mk, St.effOf, eff, effCall, effBinC, isConst, effBin, effUn, effConv, effPick, effNil, effFold, fold1, effLoad, effStore, effFieldAddr, effField, fieldOf, sliceOf, effIndexAddr, effIndex, effLen, effExtract, effSlice, dats, bnd, effBuild, placesOf, effBuildSlice, effMakeSlice, effAppend, srcOf, fillA, chunk, seg, toD, toDs, put, eqAV, fieldsEq, leafEq, strip, unw, allB, selP_or, selP_and, tis, TyD.agg, AV.cells, AV.cell, allCell, vInt, vBool, vStr, subL_nil, subL_cons, upIds, AV.ids, AV.ids.idsL, AObj.ids, drops, Hp.get_cons, get_nil, retF, resL, one, fz, fz.fzL, List.map_cons, List.map_nil, List.nil_append, List.append_nil, List.cons_append, List.all_cons, List.all_nil, List.length_cons, List.length_nil, List.getElem?_cons_zero, List.getElem?_cons_succ, List.getD_cons_zero, List.getD_cons_succ, List.take_succ_cons, List.take_zero, List.drop_succ_cons, List.drop_zero, List.take_nil, List.drop_nil, List.contains_cons, List.contains_nil, Option.getD_some, Option.getD_none, Option.map_some, Option.map_none, if_true, if_false, true_and, and_true, and_self, or_self, or_false, false_or, false_and, and_false, reduceCtorEq, sel_and, sel_or, decide_eq_true_eq, Bool.and_eq_true, Bool.or_eq_true, Bool.and_true, Bool.true_and, Bool.or_false, Bool.false_or, Bool.true_or, Bool.or_true, Bool.not_true, Bool.not_false, Bool.false_eq_true, implies_true, not_false_eq_true, Nat.reduceLT, Nat.reduceEqDiff, Nat.reduceAdd, Nat.reduceMul, Nat.reduceMod, Nat.reduceLeDiff, Nat.reduceBEq, Nat.zero_add, Nat.add_zero, reduceIte, ↓reduceIte, List.not_mem_nil]
 unfold lead
 have q1 := u8_and31 (x := c) h0 h1
 have q2 := u8_and15 (x := c) h0 h1
 have q3 := u8_and7 (x := c) h0 h1
 by_cases a1 : c < 128
 ·rw [if_pos a1, if_pos a1, w64 (by omega) (by omega)]
 ·rw [if_neg a1, if_neg a1]
  simp only [ge_iff_le]
  by_cases a2 : 194 ≤ c ∧ c < 224
  ·rw [if_pos a2, if_pos a2, q1, w64 (by omega) (by omega), show c % 32 = c - 192 by omega]
  ·rw [if_neg a2, if_neg a2]
   by_cases a3 : 224 ≤ c ∧ c < 240
   ·rw [if_pos a3, if_pos a3, q2, w64 (by omega) (by omega), show c % 16 = c - 224 by omega]
   ·rw [if_neg a3, if_neg a3]
    by_cases a4 : 240 ≤ c ∧ c < 245
    ·rw [if_pos a4, if_pos a4, q3, w64 (by omega) (by omega), show c % 8 = c - 240 by omega]
    ·rw [if_neg a4, if_neg a4]
def F_right : List AV → Option (Prop × AV)
 | [.d (.v (.int .i64 r))] => some (True, vBool (decide (Utf.isCp r)))
 | _ => none
theorem right_body {Γ : Gam} (r : Int) : Body Try.prog Γ (DRun Try.prog Γ) 78 [.d (.v (.int .i64 r))] (vBool (decide (Utf.isCp r))) := by
 refine Body.of Try.func78 Try.ntmps78 (by kernel_rfl) rfl rfl rfl ?_
 simp only [goTG_val, goTG_new, goTG_up, goTG_none, goG_none, goG_new, goG_up, ne_eq, evK, evH, retHF, DRun_mk, runT_nil, runT_none, runT_guard, goT_val, goT_new, goT_store, goTH_true, goTH_false, evO, keys, Option.toList_some, Option.toList_none, nzL_nil, nzL_cons, nz_k, nz_sl, nz_nil, nz_agg, startL, evC, evV, goE_val, goE_new, goE_store, goH_true, goH_false, goG_val, lk_cons, lk_nil, lk_func, lk_int, lk_bool, lk_string, lk_slice, lk_agg, look_mk, St.effOf, eff, effCall, effBinC, isConst, effBin, effUn, effConv, effPick, effNil, effFold, fold1, effLoad, effStore, effFieldAddr, effField, fieldOf, sliceOf, effIndexAddr, effIndex, effLen, effExtract, effSlice, dats, bnd, effBuild, placesOf, effBuildSlice, effMakeSlice, effAppend, srcOf, fillA, chunk, seg, toD, toDs, put, eqAV, fieldsEq, leafEq, strip, unw, allB, selP_or, selP_and, tis, TyD.agg, AV.cells, AV.cell, allCell, vInt, vBool, vStr, subL_nil, subL_cons, upIds, AV.ids, AV.ids.idsL, AObj.ids, drops, Hp.get_cons, get_nil, retF, resL, one, fz, fz.fzL, List.map_cons, List.map_nil, List.nil_append, List.append_nil, List.cons_append, List.all_cons, List.all_nil, List.length_cons, List.length_nil, List.getElem?_cons_zero, List.getElem?_cons_succ, List.getD_cons_zero, List.getD_cons_succ, List.take_succ_cons, List.take_zero, List.drop_succ_cons, List.drop_zero, List.take_nil, List.drop_nil, List.contains_cons, List.contains_nil, Option.getD_some, Option.getD_none, Option.map_some, Option.map_none, if_true, if_false, true_and, and_true, and_self, or_self, or_false, false_or, false_and, and_false, reduceCtorEq, sel_and, sel_or, decide_eq_true_eq, Bool.and_eq_true, Bool.or_eq_true, Bool.and_true, Bool.true_and, Bool.or_false, Bool.false_or, Bool.true_or, Bool.or_true, Bool.not_true, Bool.not_false, Bool.false_eq_true, implies_true, not_false_eq_true, Nat.reduceLT, Nat.reduceEqDiff, Nat.reduceAdd, Nat.reduceMul, Nat.reduceMod, Nat.reduceLeDiff, Nat.reduceBEq, Nat.zero_add, Nat.add_zero, reduceIte, ↓reduceIte, List.not_mem_nil]
 have e : (if r ≥ 0 ∧ r ≤ 1114111 then if r < 55296 then true else decide (r > 57343) else false) = decide (Utf.isCp r) := by
  by_cases h : Utf.isCp r
  ·rw [decide_eq_true h]
   unfold Utf.isCp at h
   rw [if_pos (by omega)]
   split
   ·rfl
   ·exact decide_eq_true (by omega)
  ·rw [decide_eq_false h]
   unfold Utf.isCp at h
   split
   ·rw [if_neg (by omega)]
    exact decide_eq_false (by omega)
   ·rfl
 rw [e]
def F_size : List AV → Option (Prop × AV)
 | [.d (.v (.int .i64 r))] => some (True, vInt .i64 (Utf.size r))
 | _ => none
theorem size_body {Γ : Gam} (r : Int) : Body Try.prog Γ (DRun Try.prog Γ) 81 [.d (.v (.int .i64 r))] (vInt .i64 (Utf.size r)) := by
 refine Body.of Try.func81 Try.ntmps81 (by kernel_rfl) rfl rfl rfl ?_
 simp only [goTG_val, goTG_new, goTG_up, goTG_none, goG_none, goG_new, goG_up, ne_eq, evK, evH, retHF, DRun_mk, runT_nil, runT_none, runT_guard, goT_val, goT_new, goT_store, goTH_true, goTH_false, evO, keys, Option.toList_some, Option.toList_none, nzL_nil, nzL_cons, nz_k, nz_sl, nz_nil, nz_agg, startL, evC, evV, goE_val, goE_new, goE_store, goH_true, goH_false, goG_val, lk_cons, lk_nil, lk_func, lk_int, lk_bool, lk_string, lk_slice, lk_agg, look_mk, St.effOf, eff, effCall, effBinC, isConst, effBin, effUn, effConv, effPick, effNil, effFold, fold1, effLoad, effStore, effFieldAddr, effField, fieldOf, sliceOf, effIndexAddr, effIndex, effLen, effExtract, effSlice, dats, bnd, effBuild, placesOf, effBuildSlice, effMakeSlice, effAppend, srcOf, fillA, chunk, seg, toD, toDs, put, eqAV, fieldsEq, leafEq, strip, unw, allB, selP_or, selP_and, tis, TyD.agg, AV.cells, AV.cell, allCell, vInt, vBool, vStr, subL_nil, subL_cons, upIds, AV.ids, AV.ids.idsL, AObj.ids, drops, Hp.get_cons, get_nil, retF, resL, one, fz, fz.fzL, List.map_cons, List.map_nil, List.nil_append, List.append_nil, List.cons_append, List.all_cons, List.all_nil, List.length_cons, List.length_nil, List.getElem?_cons_zero, List.getElem?_cons_succ, List.getD_cons_zero, List.getD_cons_succ, List.take_succ_cons, List.take_zero, List.drop_succ_cons, List.drop_zero, List.take_nil, List.drop_nil, List.contains_cons, List.contains_nil, Option.getD_some, Option.getD_none, Option.map_some, Option.map_none, if_true, if_false, true_and, and_true, and_self, or_self, or_false, false_or, false_and, and_false, reduceCtorEq, sel_and, sel_or, decide_eq_true_eq, Bool.and_eq_true, Bool.or_eq_true, Bool.and_true, Bool.true_and, Bool.or_false, Bool.false_or, Bool.true_or, Bool.or_true, Bool.not_true, Bool.not_false, Bool.false_eq_true, implies_true, not_false_eq_true, Nat.reduceLT, Nat.reduceEqDiff, Nat.reduceAdd, Nat.reduceMul, Nat.reduceMod, Nat.reduceLeDiff, Nat.reduceBEq, Nat.zero_add, Nat.add_zero, reduceIte, ↓reduceIte, List.not_mem_nil]
 unfold Utf.size
 (repeat' split) <;> first | rfl | (exfalso; omega)
theorem wraps_i64 (n : Int) (h0 : 0 ≤ n) (h1 : n < 2 ^ 31) : IntKind.i64.wrap n = n := by rw [IntKind.wrap_i64]; omega
theorem i64_and63 {x : Int} (h0 : 0 ≤ x) (h1 : x < 2147483648) : bits .and .i64 x 63 = x % 64 :=
 bits_mask .i64 31 (by decide) wraps_i64 6 (by decide) x h0 h1
theorem i64_or128 {y : Int} (h0 : 0 ≤ y) (h1 : y < 64) : bits .or .i64 128 y = 128 + y :=
 bits_join .i64 31 (by decide) wraps_i64 6 128 y (by decide) (by decide) (by decide) h0 h1 (by omega)
theorem i64_or192 {y : Int} (h0 : 0 ≤ y) (h1 : y < 32) : bits .or .i64 192 y = 192 + y :=
 bits_join .i64 31 (by decide) wraps_i64 6 192 y (by decide) (by decide) (by decide) h0 (by omega) (by omega)
theorem i64_or224 {y : Int} (h0 : 0 ≤ y) (h1 : y < 16) : bits .or .i64 224 y = 224 + y :=
 bits_join .i64 31 (by decide) wraps_i64 5 224 y (by decide) (by decide) (by decide) h0 (by omega) (by omega)
theorem i64_or240 {y : Int} (h0 : 0 ≤ y) (h1 : y < 16) : bits .or .i64 240 y = 240 + y :=
 bits_join .i64 31 (by decide) wraps_i64 4 240 y (by decide) (by decide) (by decide) h0 (by omega) (by omega)
theorem i64_or6 {x y : Int} (hx : 0 ≤ x) (hx1 : x < 33554432) (h0 : 0 ≤ y) (h1 : y < 64) : bits .or .i64 (x * 64) y = x * 64 + y :=
 bits_join .i64 31 (by decide) wraps_i64 6 (x * 64) y (by omega) (by omega) (by omega) h0 h1 (by omega)
theorem andNot_cont {c : Int} (h0 : 0 ≤ c) (h1 : c < 256) : bits .andNot .u8 c 63 = 128 ↔ Utf.cont c := by
 have key : ∀ n : Fin 256, (bits .andNot .u8 ((n.val : Nat) : Int) 63 = 128) ↔ Utf.cont ((n.val : Nat) : Int) := by decide +kernel
 obtain ⟨n, rfl⟩ := Int.eq_ofNat_of_zero_le h0
 exact key ⟨n, by omega⟩
theorem and_cont {c : Int} (h0 : 0 ≤ c) (h1 : c < 256) : bits .and .u8 c 192 = 128 ↔ Utf.cont c := by
 have key : ∀ n : Fin 256, (bits .and .u8 ((n.val : Nat) : Int) 192 = 128) ↔ Utf.cont ((n.val : Nat) : Int) := by decide +kernel
 obtain ⟨n, rfl⟩ := Int.eq_ofNat_of_zero_le h0
 exact key ⟨n, by omega⟩

section
open Utf
theorem bytes2 {r : Int} (h : isCp r) (h1 : 128 ≤ r) (h2 : r < 2048) : [(bits .or .i64 192 (r / 64)) % 256, (bits .or .i64 128 (bits .and .i64 r 63)) % 256] = enc r := by
 unfold isCp at h
 rw [i64_and63 (by omega) (by omega), i64_or192 (by omega) (by omega), i64_or128 (by omega) (by omega)]
 unfold enc
 rw [if_neg (by omega), if_pos (by omega), Int.emod_eq_of_lt (by omega) (by omega), Int.emod_eq_of_lt (by omega) (by omega)]
theorem bytes3 {r : Int} (h : isCp r) (h1 : 2048 ≤ r) (h2 : r < 65536) : [(bits .or .i64 224 (r / 4096)) % 256, (bits .or .i64 128 (bits .and .i64 (r / 64) 63)) % 256, (bits .or .i64 128 (bits .and .i64 r 63)) % 256] = enc r := by
 unfold isCp at h
 rw [i64_and63 (x := r) (by omega) (by omega), i64_and63 (x := r / 64) (by omega) (by omega), i64_or224 (by omega) (by omega), i64_or128 (y := r / 64 % 64) (by omega) (by omega), i64_or128 (y := r % 64) (by omega) (by omega)]
 unfold enc
 rw [if_neg (by omega), if_neg (by omega), if_pos (by omega), Int.emod_eq_of_lt (a := 224 + r / 4096) (by omega) (by omega), Int.emod_eq_of_lt (a := 128 + r / 64 % 64) (by omega) (by omega), Int.emod_eq_of_lt (a := 128 + r % 64) (by omega) (by omega)]
theorem bytes4 {r : Int} (h : isCp r) (h1 : 65536 ≤ r) : [(bits .or .i64 240 (r / 262144)) % 256, (bits .or .i64 128 (bits .and .i64 (r / 4096) 63)) % 256, (bits .or .i64 128 (bits .and .i64 (r / 64) 63)) % 256, (bits .or .i64 128 (bits .and .i64 r 63)) % 256] = enc r := by
 unfold isCp at h
 rw [i64_and63 (x := r) (by omega) (by omega), i64_and63 (x := r / 64) (by omega) (by omega), i64_and63 (x := r / 4096) (by omega) (by omega), i64_or240 (by omega) (by omega), i64_or128 (y := r / 4096 % 64) (by omega) (by omega), i64_or128 (y := r / 64 % 64) (by omega) (by omega), i64_or128 (y := r % 64) (by omega) (by omega)]
 unfold enc
 rw [if_neg (by omega), if_neg (by omega), if_neg (by omega), Int.emod_eq_of_lt (a := 240 + r / 262144) (by omega) (by omega), Int.emod_eq_of_lt (a := 128 + r / 4096 % 64) (by omega) (by omega), Int.emod_eq_of_lt (a := 128 + r / 64 % 64) (by omega) (by omega), Int.emod_eq_of_lt (a := 128 + r % 64) (by omega) (by omega)]
theorem bytes1 {r : Int} (h : isCp r) (h1 : r < 128) : [r % 256] = enc r := by
 unfold isCp at h
 unfold enc
 rw [if_pos h1, Int.emod_eq_of_lt (by omega) (by omega)]
end
def run (n : Int) : Int → List Int → Int × Int × Bool
 | x, [] => Utf.fin x n
 | x, d :: t => if Utf.cont d then run n (x * 64 + (d - 128)) t else Utf.bad
theorem dec_lead {c : Int} {t : List Int} (hb : Bytes (c :: t)) : Utf.dec (c :: t) = if (lead c).1 = 0 ∨ (lead c).1 > (t.length : Int) + 1 then Utf.bad else run (lead c).1 (lead c).2 (t.take ((lead c).1.toNat - 1)) := by
 have hc := hb.head
 simp only [Utf.dec]
 unfold lead
 by_cases a1 : c < 128
 ·rw [if_pos a1, if_pos a1, if_neg (by simp only []; omega)]
  simp only [show ((1 : Int).toNat - 1) = 0 from rfl, List.take_zero, run, Utf.fin]
  rw [if_pos ⟨⟨by omega, by omega, by omega⟩, by unfold Utf.size; rw [if_pos a1]⟩]
 ·rw [if_neg a1, if_neg a1]
  by_cases a2 : 194 ≤ c ∧ c < 224
  ·rw [if_pos a2, if_pos a2]
   match t with
   | [] => simp [Utf.bad]
   | d :: t => simp [run]; intro h; omega
  ·rw [if_neg a2, if_neg a2]
   by_cases a3 : 224 ≤ c ∧ c < 240
   ·rw [if_pos a3, if_pos a3]
    match t with
    | [] => simp [Utf.bad]
    | [d] => simp [Utf.bad]
    | d :: e :: t =>
     simp only [List.length_cons, show ((3 : Int).toNat - 1) = 2 from rfl, List.take_succ_cons, List.take_zero, run]
     rw [if_neg (by omega : ¬ ((3 : Int) = 0 ∨ (3 : Int) > ((t.length + 1 + 1 : Nat) : Int) + 1))]
     by_cases d1 : Utf.cont d
     ·by_cases d2 : Utf.cont e
      ·rw [if_pos ⟨d1, d2⟩, if_pos d1, if_pos d2]; congr 1; omega
      ·rw [if_neg (fun h => d2 h.2), if_pos d1, if_neg d2]
     ·rw [if_neg (fun h => d1 h.1), if_neg d1]
   ·rw [if_neg a3, if_neg a3]
    by_cases a4 : 240 ≤ c ∧ c < 245
    ·rw [if_pos a4, if_pos a4]
     match t with
     | [] => simp [Utf.bad]
     | [d] => simp [Utf.bad]
     | [d, e] => simp [Utf.bad]
     | d :: e :: f :: t =>
      simp only [List.length_cons, show ((4 : Int).toNat - 1) = 3 from rfl, List.take_succ_cons, List.take_zero, run]
      rw [if_neg (by omega : ¬ ((4 : Int) = 0 ∨ (4 : Int) > ((t.length + 1 + 1 + 1 : Nat) : Int) + 1))]
      by_cases d1 : Utf.cont d
      ·by_cases d2 : Utf.cont e
       ·by_cases d3 : Utf.cont f
        ·rw [if_pos ⟨d1, d2, d3⟩, if_pos d1, if_pos d2, if_pos d3]; congr 1; omega
        ·rw [if_neg (fun h => d3 h.2.2), if_pos d1, if_pos d2, if_neg d3]
       ·rw [if_neg (fun h => d2 h.2.1), if_pos d1, if_neg d2]
      ·rw [if_neg (fun h => d1 h.1), if_neg d1]
    ·rw [if_neg a4, if_neg a4]
     simp
theorem lead_range {c : Int} (h0 : 0 ≤ c) (h1 : c < 256) : 0 ≤ (lead c).1 ∧ (lead c).1 ≤ 4 ∧ 0 ≤ (lead c).2 ∧ (lead c).2 < 128 := by
 unfold lead
 (repeat' split) <;> simp only [] <;> omega
def F_Next : List AV → Option (Prop × AV)
 | [.d (.sl 1 xs), .d (.v (.int .i64 i))] => some (xs = (xs.map numOf).map (iD .u8) ∧ Bytes (xs.map numOf) ∧ xs.length ≤ 140737488355328,
   .tup [vInt .i64 (Utf.nx (xs.map numOf) i).1, vInt .i64 (Utf.nx (xs.map numOf) i).2.1, vBool (Utf.nx (xs.map numOf) i).2.2])
 | _ => none
def G_utf : Gam := ((Gam.none.add 80 F_lead).add 78 F_right).add 81 F_size
def S_Next (n : Int) (sg : List Int) (p : Int × Nat) : St := ⟨70, [], [(7, vInt .i64 n), (8, vInt .i64 p.1), (43, .d (.sl 1 (sg.map (iD .u8)))), (44, vInt .i64 sg.length), (45, vInt .i64 p.2)], []⟩
theorem Next_body (l : List Int) (hb : Bytes l) (hl : l.length ≤ 140737488355328) (i : Int) : Body Try.prog G_utf (DRun Try.prog G_utf) 70 [.d (bytesD l), .d (.v (.int .i64 i))] (.tup [vInt .i64 (Utf.nx l i).1, vInt .i64 (Utf.nx l i).2.1, vBool (Utf.nx l i).2.2]) := by
 refine Body.of Try.func70 Try.ntmps70 (by kernel_rfl) rfl rfl rfl ?_
 simp only [bytesD, G_utf, Gam.add, calmE, F_lead, F_right, F_size, AV.flat, AV.flat.flatL, getD_iD, iD, List.length_map, goTG_val, goTG_new, goTG_up, goTG_none, goG_none, goG_new, goG_up, ne_eq, evK, evH, retHF, DRun_mk, runT_nil, runT_none, runT_guard, goT_val, goT_new, goT_store, goTH_true, goTH_false, evO, keys, Option.toList_some, Option.toList_none, nzL_nil, nzL_cons, nz_k, nz_sl, nz_nil, nz_agg, startL, evC, evV, goE_val, goE_new, goE_store, goH_true, goH_false, goG_val, lk_cons, lk_nil, lk_func, lk_int, lk_bool, lk_string, lk_slice, lk_agg, look_mk, St.effOf, eff, effCall, effBinC, isConst, effBin, effUn, effConv, effPick, effNil, effFold, fold1, effLoad, effStore, effFieldAddr, effField, fieldOf, sliceOf, effIndexAddr, effIndex, effLen, effExtract, effSlice, dats, bnd, effBuild, placesOf, effBuildSlice, effMakeSlice, effAppend, srcOf, fillA, chunk, seg, toD, toDs, put, eqAV, fieldsEq, leafEq, strip, unw, allB, selP_or, selP_and, tis, TyD.agg, AV.cells, AV.cell, allCell, vInt, vBool, vStr, subL_nil, subL_cons, upIds, AV.ids, AV.ids.idsL, AObj.ids, drops, Hp.get_cons, get_nil, retF, resL, one, fz, fz.fzL, List.map_cons, List.map_nil, List.nil_append, List.append_nil, List.cons_append, List.all_cons, List.all_nil, List.length_cons, List.length_nil, List.getElem?_cons_zero, List.getElem?_cons_succ, List.getD_cons_zero, List.getD_cons_succ, List.take_succ_cons, List.take_zero, List.drop_succ_cons, List.drop_zero, List.take_nil, List.drop_nil, List.contains_cons, List.contains_nil, Option.getD_some, Option.getD_none, Option.map_some, Option.map_none, if_true, if_false, true_and, and_true, and_self, or_self, or_false, false_or, false_and, and_false, reduceCtorEq, sel_and, sel_or, decide_eq_true_eq, Bool.and_eq_true, Bool.or_eq_true, Bool.and_true, Bool.true_and, Bool.or_false, Bool.false_or, Bool.true_or, Bool.or_true, Bool.not_true, Bool.not_false, Bool.false_eq_true, implies_true, not_false_eq_true, Nat.reduceLT, Nat.reduceEqDiff, Nat.reduceAdd, Nat.reduceMul, Nat.reduceMod, Nat.reduceLeDiff, Nat.reduceBEq, Nat.zero_add, Nat.add_zero, reduceIte, ↓reduceIte, List.not_mem_nil]
 by_cases hi : i < 0 ∨ i ≥ (l.length : Int)
 ·rw [if_pos hi, Utf.nx, if_pos (by omega)]
 ·rw [if_neg hi]
  have hi' : ¬ (i < 0 ∨ (l.length : Int) ≤ i) := by omega
  obtain ⟨c, t, ht⟩ : ∃ c t, l.drop i.toNat = c :: t := by
   cases h : l.drop i.toNat with
   | nil => have := List.drop_eq_nil_iff.mp h; omega
   | cons c t => exact ⟨c, t, rfl⟩
  have hc : l.getD i.toNat 0 = c := by
   rw [List.getD_eq_getElem?_getD, ← Nat.add_zero i.toNat, ← List.getElem?_drop, ht]; rfl
  have hbt : Bytes (c :: t) := by rw [← ht]; exact fun x hx => hb x (List.mem_of_mem_drop hx)
  have hr := hbt.head
  have hlt : (t.length : Int) + 1 = l.length - i := by
   have h := congrArg List.length ht
   rw [List.length_drop, List.length_cons] at h
   omega
  have ht1 : l.drop (i.toNat + 1) = t := by rw [← List.drop_drop, ht]; rfl
  rw [hc]
  refine ⟨by omega, hr, ?_⟩
  have hn : Utf.nx l i = Utf.dec (c :: t) := by rw [Utf.nx, if_neg hi', ht]
  rw [hn, dec_lead hbt]
  obtain ⟨g0, g1, g2, g3⟩ := lead_range hr.1 hr.2
  generalize lead c = q at g0 g1 g2 g3 ⊢
  rw [w64 (n := (l.length : Int) - i) (by omega) (by omega)]
  by_cases hq : q.1 = 0 ∨ q.1 > (t.length : Int) + 1
  ·rw [if_pos (by simpa [hlt] using hq), if_pos hq]
   rfl
  ·rw [if_neg (by simpa [hlt] using hq), if_neg hq, w64 (n := i + 1) (by omega) (by omega), w64 (n := i + q.1) (by omega) (by omega)]
   refine ⟨by omega, ?_⟩
   have hs : List.take ((i + q.1).toNat - (i + 1).toNat) (List.drop (i + 1).toNat (l.map (iD .u8))) = (t.take (q.1.toNat - 1)).map (iD .u8) := by
    rw [← List.map_drop, ← List.map_take, show (i + 1).toNat = i.toNat + 1 by omega, ht1, show (i + q.1).toNat - (i.toNat + 1) = q.1.toNat - 1 by omega]

   rw [hs]
   have hsb : Bytes (t.take (q.1.toNat - 1)) := fun x hx => hbt x (List.mem_cons_of_mem _ (List.mem_of_mem_take hx))
   have hsl : (t.take (q.1.toNat - 1)).length ≤ 3 := by rw [List.length_take]; omega
   generalize t.take (q.1.toNat - 1) = sg at hsb hsl ⊢
   refine wpc_loop (S_Next q.1 sg) (fun p => p.2 ≤ sg.length ∧ 0 ≤ p.1 ∧ p.1 < 128 * 64 ^ p.2 ∧ run q.1 p.1 (sg.drop p.2) = run q.1 q.2 sg) (fun p => sg.length - p.2) (q.2, 0) ⟨Nat.zero_le _, g2, by simpa using g3, rfl⟩ ?_ ?_
   ·simp only [S_Next]
    refine Le.of id [] ?_
    simp only [iD, List.length_map, Mt_tup, Mt_agg, Mt_fn, forall_eq, forall_eq_or_imp, ne_eq, List.all_cons, List.all_nil, pr, Nat.reduceLeDiff, slR_nil, slR_cons, hpR_nil, hpR_cells, hpR_row, idsR_nil, idsR_cons, mtE_v, mtE_sl, mtE_nil, mtE_refl, mtE_row, mtE_born, mtE_ptr, mtE_rp, mtE_agg, mtE_tup, mtE_fn, mtE_ep, MtL_nil, MtL_cons, Mt_v, Mt_sl, Mt_nil, Mt_refl, Mt_row, Mt_born, Mt_ptr, MtO_cells, MtO_row, liveIds, distinct, Dat.v.injEq, Dat.sl.injEq, Value.int.injEq, Value.bool.injEq, Value.string.injEq, lk_cons, lk_nil, subL_nil, subL_cons, upIds, AV.ids, AV.ids.idsL, AObj.ids, Hp.get_cons, get_nil, allCell, AV.cell, vInt, vBool, vStr, id, true_and, and_true, and_self, List.append_nil, List.nil_append, List.not_mem_nil, List.mem_cons, or_false, false_or, or_self, not_true_eq_false, not_false_eq_true, false_imp_iff, false_implies, List.map_nil, not_false_eq_true, List.contains_cons, List.contains_nil, Bool.or_false, Bool.false_or, Bool.true_or, Bool.or_true, Bool.and_true, Bool.true_and, implies_true, if_true, if_false, reduceCtorEq, Nat.reduceEqDiff, Nat.reduceBEq, Nat.reduceAdd, reduceIte, ↓reduceIte]
    rfl
   ·rintro ⟨x, j⟩ ⟨h1, h2, h3, h4⟩
    simp only [S_Next, bytesD, G_utf, Gam.add, calmE, F_lead, F_right, F_size, AV.flat, AV.flat.flatL, getD_iD, iD, List.length_map, goTG_val, goTG_new, goTG_up, goTG_none, goG_none, goG_new, goG_up, ne_eq, evK, evH, retHF, DRun_mk, runT_nil, runT_none, runT_guard, goT_val, goT_new, goT_store, goTH_true, goTH_false, evO, keys, Option.toList_some, Option.toList_none, nzL_nil, nzL_cons, nz_k, nz_sl, nz_nil, nz_agg, startL, evC, evV, goE_val, goE_new, goE_store, goH_true, goH_false, goG_val, lk_cons, lk_nil, lk_func, lk_int, lk_bool, lk_string, lk_slice, lk_agg, look_mk, St.effOf, eff, effCall, effBinC, isConst, effBin, effUn, effConv, effPick, effNil, effFold, fold1, effLoad, effStore, effFieldAddr, effField, fieldOf, sliceOf, effIndexAddr, effIndex, effLen, effExtract, effSlice, dats, bnd, effBuild, placesOf, effBuildSlice, effMakeSlice, effAppend, srcOf, fillA, chunk, seg, toD, toDs, put, eqAV, fieldsEq, leafEq, strip, unw, allB, selP_or, selP_and, tis, TyD.agg, AV.cells, AV.cell, allCell, vInt, vBool, vStr, subL_nil, subL_cons, upIds, AV.ids, AV.ids.idsL, AObj.ids, drops, Hp.get_cons, get_nil, retF, resL, one, fz, fz.fzL, List.map_cons, List.map_nil, List.nil_append, List.append_nil, List.cons_append, List.all_cons, List.all_nil, List.length_cons, List.length_nil, List.getElem?_cons_zero, List.getElem?_cons_succ, List.getD_cons_zero, List.getD_cons_succ, List.take_succ_cons, List.take_zero, List.drop_succ_cons, List.drop_zero, List.take_nil, List.drop_nil, List.contains_cons, List.contains_nil, Option.getD_some, Option.getD_none, Option.map_some, Option.map_none, if_true, if_false, true_and, and_true, and_self, or_self, or_false, false_or, false_and, and_false, reduceCtorEq, sel_and, sel_or, decide_eq_true_eq, Bool.and_eq_true, Bool.or_eq_true, Bool.and_true, Bool.true_and, Bool.or_false, Bool.false_or, Bool.true_or, Bool.or_true, Bool.not_true, Bool.not_false, Bool.false_eq_true, implies_true, not_false_eq_true, Nat.reduceLT, Nat.reduceEqDiff, Nat.reduceAdd, Nat.reduceMul, Nat.reduceMod, Nat.reduceLeDiff, Nat.reduceBEq, Nat.zero_add, Nat.add_zero, reduceIte, ↓reduceIte, List.not_mem_nil]
    simp only [] at h1 h2 h3 h4
    by_cases hj : (j : Int) < sg.length
    ·rw [if_pos hj]
     refine ⟨by omega, ?_⟩
     obtain ⟨d, hd⟩ : ∃ d, sg[j]? = some d := ⟨_, List.getElem?_eq_getElem (by omega)⟩
     have hdb := hsb d (List.mem_of_getElem? hd)
     have hdr : sg.drop j = d :: sg.drop (j + 1) := by
      obtain ⟨hlt', rfl⟩ := List.getElem?_eq_some_iff.mp hd
      exact List.drop_eq_getElem_cons hlt'
     have hg : sg.getD (j : Int).toNat 0 = d := by rw [Int.toNat_natCast, List.getD_eq_getElem?_getD, hd]; rfl
     rw [hg]
     rw [hdr, run] at h4
     by_cases hk : Utf.cont d
     ·rw [if_neg (by simpa using (andNot_cont hdb.1 hdb.2).mpr hk)]
      refine ⟨by omega, ?_⟩
      rw [if_pos hk] at h4
      have hx : x < 33554432 := by
       have : (64 : Int) ^ j ≤ 64 ^ 2 := by
        have hj2 : j = 0 ∨ j = 1 ∨ j = 2 := by omega
        rcases hj2 with rfl | rfl | rfl <;> decide
       omega
      have hx2 : x * 64 + (d - 128) < 128 * 64 ^ (j + 1) := by
       unfold Utf.cont at hk
       rw [Int.pow_succ]; omega
      unfold Utf.cont at hk
      refine ⟨(x * 64 + (d - 128), j + 1), by simp only []; omega, ⟨by simp only []; omega, by simp only []; omega, hx2, h4⟩, ?_⟩
      refine Le.of id [] ?_
      simp only [iD, List.length_map, Mt_tup, Mt_agg, Mt_fn, forall_eq, forall_eq_or_imp, ne_eq, List.all_cons, List.all_nil, pr, Nat.reduceLeDiff, slR_nil, slR_cons, hpR_nil, hpR_cells, hpR_row, idsR_nil, idsR_cons, mtE_v, mtE_sl, mtE_nil, mtE_refl, mtE_row, mtE_born, mtE_ptr, mtE_rp, mtE_agg, mtE_tup, mtE_fn, mtE_ep, MtL_nil, MtL_cons, Mt_v, Mt_sl, Mt_nil, Mt_refl, Mt_row, Mt_born, Mt_ptr, MtO_cells, MtO_row, liveIds, distinct, Dat.v.injEq, Dat.sl.injEq, Value.int.injEq, Value.bool.injEq, Value.string.injEq, lk_cons, lk_nil, subL_nil, subL_cons, upIds, AV.ids, AV.ids.idsL, AObj.ids, Hp.get_cons, get_nil, allCell, AV.cell, vInt, vBool, vStr, id, true_and, and_true, and_self, List.append_nil, List.nil_append, List.not_mem_nil, List.mem_cons, or_false, false_or, or_self, not_true_eq_false, not_false_eq_true, false_imp_iff, false_implies, List.map_nil, not_false_eq_true, List.contains_cons, List.contains_nil, Bool.or_false, Bool.false_or, Bool.true_or, Bool.or_true, Bool.and_true, Bool.true_and, implies_true, if_true, if_false, reduceCtorEq, Nat.reduceEqDiff, Nat.reduceBEq, Nat.reduceAdd, reduceIte, ↓reduceIte]
      rw [show (2 : Int) ^ min (Int.toNat 6) IntKind.i64.bits = 64 from rfl, u8_and63 (x := d) hdb.1 hdb.2, w64 (n := x * 64) (by omega) (by omega), w64 (n := d % 64) (by omega) (by omega), i64_or6 h2 hx (by omega) (by omega), w64 (n := (j : Int) + 1) (by omega) (by omega)]
      exact ⟨by omega, by omega⟩
     ·rw [if_pos (by simpa using fun h => hk ((andNot_cont hdb.1 hdb.2).mp h))]
      rw [if_neg hk] at h4
      rw [← h4]; rfl
    ·rw [if_neg hj]
     rw [List.drop_eq_nil_of_le (by omega), run, Utf.fin] at h4
     by_cases hf : Utf.isCp x ∧ Utf.size x = q.1
     ·rw [if_pos hf] at h4
      rw [if_neg (by simpa using hf), ← h4]
     ·rw [if_neg hf] at h4
      rw [if_pos (by rcases Classical.not_and_iff_not_or_not.mp hf with h | h <;> simp [h]), ← h4]; rfl
theorem known_utf : Known Try.prog G_utf := by
 refine ((Known.none _).add mixed ?_).add mixed ?_ |>.add mixed ?_
 ·intro args sc res h hs _
  unfold F_lead at h
  split at h <;> cases h
  exact ⟨rfl, lead_body _ hs.1 hs.2⟩
 ·intro args sc res h hs _
  unfold F_right at h
  split at h <;> cases h
  exact ⟨rfl, right_body _⟩
 ·intro args sc res h hs _
  unfold F_size at h
  split at h <;> cases h
  exact ⟨rfl, size_body _⟩
theorem Next_calm : ∀ args sc res, F_Next args = some (sc, res) → sc → Calm Try.prog 70 args res := by
 intro args sc res h hs
 unfold F_Next at h
 split at h <;> cases h
 rename_i xs i
 obtain ⟨h1, h2, h3⟩ := hs
 have hb := Next_body (xs.map numOf) h2 (by simpa using h3) i
 rw [bytesD, ← h1] at hb
 exact known_utf.calm mixed rfl rfl hb
theorem byteOf_all (l : List Int) : ∀ r : List Dat, r ∈ l.map (iD .u8) → r = [Dat.v (Value.int .u8 (byteOf r))] := by
 intro r h
 obtain ⟨c, -, rfl⟩ := List.mem_map.mp h
 rfl
theorem byteOf_map (l : List Int) : (l.map (iD .u8)).map byteOf = l := by
 induction l with
 | nil => rfl
 | cons a l ih => simp only [List.map_cons, ih]; rfl
def puts (rs : List Int) : List Int := rs.flatMap Utf.put
theorem puts_len (l : List Int) : (puts l).length ≤ 4 * l.length := by
 induction l with
 | nil => exact Nat.le_refl 0
 | cons a l ih =>
  have := (Utf.put_length a).2
  simp only [puts, List.flatMap_cons, List.length_append, List.length_cons] at ih ⊢
  omega
theorem puts_snoc {l : List Int} {j : Nat} {c : Int} (h : l[j]? = some c) : puts (l.take (j + 1)) = puts (l.take j) ++ Utf.put c := by
 rw [List.take_add_one, h]
 simp [puts]
theorem getD_at {l : List Int} {j : Nat} {c : Int} (h : l[j]? = some c) : l.getD (j : Int).toNat 0 = c := by rw [Int.toNat_natCast, List.getD_eq_getElem?_getD, h]; rfl
def F_Put : List AV → Option (Prop × AV)
 | [.d (.sl 1 xs), .d (.v (.int .i64 r))] => some (xs = (xs.map numOf).map (iD .u8) ∧ xs.length < 140737488355000, .d (bytesD (xs.map numOf ++ Utf.put r)))
 | _ => none
theorem Put_body (l : List Int) (hl : l.length < 140737488355000) (r : Int) : Body Try.prog G_utf (DRun Try.prog G_utf) 79 [.d (bytesD l), .d (.v (.int .i64 r))] (.d (bytesD (l ++ Utf.put r))) := by
 refine Body.of Try.func79 Try.ntmps79 (by kernel_rfl) rfl rfl rfl ?_
 simp only [bytesD, G_utf, Gam.add, calmE, F_lead, F_right, F_size, AV.flat, AV.flat.flatL, getD_iD, iD, List.length_map, goTG_val, goTG_new, goTG_up, goTG_none, goG_none, goG_new, goG_up, ne_eq, evK, evH, retHF, DRun_mk, runT_nil, runT_none, runT_guard, goT_val, goT_new, goT_store, goTH_true, goTH_false, evO, keys, Option.toList_some, Option.toList_none, nzL_nil, nzL_cons, nz_k, nz_sl, nz_nil, nz_agg, startL, evC, evV, goE_val, goE_new, goE_store, goH_true, goH_false, goG_val, lk_cons, lk_nil, lk_func, lk_int, lk_bool, lk_string, lk_slice, lk_agg, look_mk, St.effOf, eff, effCall, effBinC, isConst, effBin, effUn, effConv, effPick, effNil, effFold, fold1, effLoad, effStore, effFieldAddr, effField, fieldOf, sliceOf, effIndexAddr, effIndex, effLen, effExtract, effSlice, dats, bnd, effBuild, placesOf, effBuildSlice, effMakeSlice, effAppend, srcOf, fillA, chunk, seg, toD, toDs, put, eqAV, fieldsEq, leafEq, strip, unw, allB, selP_or, selP_and, tis, TyD.agg, AV.cells, AV.cell, allCell, vInt, vBool, vStr, subL_nil, subL_cons, upIds, AV.ids, AV.ids.idsL, AObj.ids, drops, Hp.get_cons, get_nil, retF, resL, one, fz, fz.fzL, List.map_cons, List.map_nil, List.nil_append, List.append_nil, List.cons_append, List.all_cons, List.all_nil, List.length_cons, List.length_nil, List.getElem?_cons_zero, List.getElem?_cons_succ, List.getD_cons_zero, List.getD_cons_succ, List.take_succ_cons, List.take_zero, List.drop_succ_cons, List.drop_zero, List.take_nil, List.drop_nil, List.contains_cons, List.contains_nil, Option.getD_some, Option.getD_none, Option.map_some, Option.map_none, if_true, if_false, true_and, and_true, and_self, or_self, or_false, false_or, false_and, and_false, reduceCtorEq, sel_and, sel_or, decide_eq_true_eq, Bool.and_eq_true, Bool.or_eq_true, Bool.and_true, Bool.true_and, Bool.or_false, Bool.false_or, Bool.true_or, Bool.or_true, Bool.not_true, Bool.not_false, Bool.false_eq_true, implies_true, not_false_eq_true, Nat.reduceLT, Nat.reduceEqDiff, Nat.reduceAdd, Nat.reduceMul, Nat.reduceMod, Nat.reduceLeDiff, Nat.reduceBEq, Nat.zero_add, Nat.add_zero, reduceIte, ↓reduceIte, List.not_mem_nil]
 unfold Utf.put Utf.fix
 by_cases hr : Utf.isCp r
 rotate_left
 rw [if_pos (by simpa using hr), if_neg hr]
 have h2 : Utf.isCp 65533 := by decide
 clear hr r
 generalize (65533 : Int) = r at h2 ⊢
 have hr := h2
 rotate_left
 rw [if_neg (by simpa using hr), if_pos hr]
 all_goals
  have hr' := hr
  unfold Utf.isCp at hr'
  have eu : ∀ n : Int, IntKind.u8.wrap n = n % 256 := fun n => by rw [IntKind.wrap_u8]
  have e6 : Int.fdiv r (2 ^ min (Int.toNat 6) IntKind.i64.bits) = r / 64 := by rw [Int.fdiv_eq_ediv_of_nonneg _ (by decide)]; rfl
  have e12 : Int.fdiv r (2 ^ min (Int.toNat 12) IntKind.i64.bits) = r / 4096 := by rw [Int.fdiv_eq_ediv_of_nonneg _ (by decide)]; rfl
  have e18 : Int.fdiv r (2 ^ min (Int.toNat 18) IntKind.i64.bits) = r / 262144 := by rw [Int.fdiv_eq_ediv_of_nonneg _ (by decide)]; rfl
  simp only [eu, e6, e12, e18]
  refine ⟨by omega, ?_⟩
  unfold Utf.size
  by_cases c1 : r < 128
  ·rw [if_pos c1]
   simp only [show ((1 : Int) == 1) = true from rfl, if_true]
   refine ⟨by omega, Sub.eq ?_⟩
   rw [← bytes1 hr c1, List.map_append]; rfl
  ·rw [if_neg c1]
   by_cases c2 : r < 2048
   ·rw [if_pos c2]
    simp only [show ((2 : Int) == 1) = false from rfl, show ((2 : Int) == 2) = true from rfl, if_true, Bool.false_eq_true, if_false]
    refine ⟨by omega, by omega, Sub.eq ?_⟩
    rw [← bytes2 hr (by omega) c2, List.map_append]; rfl
   ·rw [if_neg c2]
    by_cases c3 : r < 65536
    ·rw [if_pos c3]
     simp only [show ((3 : Int) == 1) = false from rfl, show ((3 : Int) == 2) = false from rfl, show ((3 : Int) == 3) = true from rfl, if_true, Bool.false_eq_true, if_false]
     refine ⟨by omega, by omega, by omega, Sub.eq ?_⟩
     rw [← bytes3 hr (by omega) c3, List.map_append]; rfl
    ·rw [if_neg c3]
     simp only [show ((4 : Int) == 1) = false from rfl, show ((4 : Int) == 2) = false from rfl, show ((4 : Int) == 3) = false from rfl, Bool.false_eq_true, if_false]
     refine ⟨by omega, by omega, by omega, by omega, Sub.eq ?_⟩
     rw [← bytes4 hr (by omega), List.map_append]; rfl
theorem Put_calm : ∀ args sc res, F_Put args = some (sc, res) → sc → Calm Try.prog 79 args res := by
 intro args sc res h hs
 unfold F_Put at h
 split at h <;> cases h
 rename_i xs r
 obtain ⟨h1, h2⟩ := hs
 have hb := Put_body (xs.map numOf) (by simpa using h2) r
 rw [bytesD, ← h1] at hb
 exact known_utf.calm mixed rfl rfl hb
def G_utf2 : Gam := (G_utf.add 70 fun a => F_Next (NT.nz.nzL [.s 1, .k] a)).add 79 fun a => F_Put (NT.nz.nzL [.s 1, .k] a)
theorem known_utf2 : Known Try.prog G_utf2 := (known_utf.addC _ Next_calm).addC _ Put_calm
def F_Text : List AV → Option (Prop × AV)
 | [.d (.sl 1 xs)] => some (xs = (xs.map numOf).map (iD .i64) ∧ xs.length < 35000000000000, vStr (strOfNums (puts (xs.map numOf))))
 | _ => none
theorem Text_body (l : List Int) (hl : l.length < 35000000000000) : Body Try.prog G_utf2 (DRun Try.prog G_utf2) 69 [.d (intsD l)] (vStr (strOfNums (puts l))) := by
 refine Body.of Try.func69 Try.ntmps69 (by kernel_rfl) rfl rfl rfl ?_
 simp only [intsD, bytesD, G_utf2, G_utf, Gam.add, calmE, F_lead, F_right, F_size, F_Next, F_Put, AV.flat, AV.flat.flatL, getD_iD, iD, List.length_map, goTG_val, goTG_new, goTG_up, goTG_none, goG_none, goG_new, goG_up, ne_eq, evK, evH, retHF, DRun_mk, runT_nil, runT_none, runT_guard, goT_val, goT_new, goT_store, goTH_true, goTH_false, evO, keys, Option.toList_some, Option.toList_none, nzL_nil, nzL_cons, nz_k, nz_sl, nz_nil, nz_agg, startL, evC, evV, goE_val, goE_new, goE_store, goH_true, goH_false, goG_val, lk_cons, lk_nil, lk_func, lk_int, lk_bool, lk_string, lk_slice, lk_agg, look_mk, St.effOf, eff, effCall, effBinC, isConst, effBin, effUn, effConv, effPick, effNil, effFold, fold1, effLoad, effStore, effFieldAddr, effField, fieldOf, sliceOf, effIndexAddr, effIndex, effLen, effExtract, effSlice, dats, bnd, effBuild, placesOf, effBuildSlice, effMakeSlice, effAppend, srcOf, fillA, chunk, seg, toD, toDs, put, eqAV, fieldsEq, leafEq, strip, unw, allB, selP_or, selP_and, tis, TyD.agg, AV.cells, AV.cell, allCell, vInt, vBool, vStr, subL_nil, subL_cons, upIds, AV.ids, AV.ids.idsL, AObj.ids, drops, Hp.get_cons, get_nil, retF, resL, one, fz, fz.fzL, List.map_cons, List.map_nil, List.nil_append, List.append_nil, List.cons_append, List.all_cons, List.all_nil, List.length_cons, List.length_nil, List.getElem?_cons_zero, List.getElem?_cons_succ, List.getD_cons_zero, List.getD_cons_succ, List.take_succ_cons, List.take_zero, List.drop_succ_cons, List.drop_zero, List.take_nil, List.drop_nil, List.contains_cons, List.contains_nil, Option.getD_some, Option.getD_none, Option.map_some, Option.map_none, if_true, if_false, true_and, and_true, and_self, or_self, or_false, false_or, false_and, and_false, reduceCtorEq, sel_and, sel_or, decide_eq_true_eq, Bool.and_eq_true, Bool.or_eq_true, Bool.and_true, Bool.true_and, Bool.or_false, Bool.false_or, Bool.true_or, Bool.or_true, Bool.not_true, Bool.not_false, Bool.false_eq_true, implies_true, not_false_eq_true, Nat.reduceLT, Nat.reduceEqDiff, Nat.reduceAdd, Nat.reduceMul, Nat.reduceMod, Nat.reduceLeDiff, Nat.reduceBEq, Nat.zero_add, Nat.add_zero, reduceIte, ↓reduceIte, List.not_mem_nil]
 refine wpc_loop (fun j : Nat => ⟨30, [100], [(3, .row 100 (puts (l.take j)).length), (6, .d (intsD l)), (7, vInt .i64 l.length), (8, vInt .i64 j)], [(100, some (.row 5 1 ((puts (l.take j)).map (iD .u8))))]⟩) (fun j => j ≤ l.length) (fun j => l.length - j) 0 (Nat.zero_le _) ?_ ?_
 ·refine Le.of id [100] ?_
  simp only [intsD, puts, List.take_zero, List.flatMap_nil, List.length_nil, List.length_map, Mt_tup, Mt_agg, Mt_fn, forall_eq, forall_eq_or_imp, ne_eq, List.all_cons, List.all_nil, pr, Nat.reduceLeDiff, slR_nil, slR_cons, hpR_nil, hpR_cells, hpR_row, idsR_nil, idsR_cons, mtE_v, mtE_sl, mtE_nil, mtE_refl, mtE_row, mtE_born, mtE_ptr, mtE_rp, mtE_agg, mtE_tup, mtE_fn, mtE_ep, MtL_nil, MtL_cons, Mt_v, Mt_sl, Mt_nil, Mt_refl, Mt_row, Mt_born, Mt_ptr, MtO_cells, MtO_row, liveIds, distinct, Dat.v.injEq, Dat.sl.injEq, Value.int.injEq, Value.bool.injEq, Value.string.injEq, lk_cons, lk_nil, subL_nil, subL_cons, upIds, AV.ids, AV.ids.idsL, AObj.ids, Hp.get_cons, get_nil, allCell, AV.cell, vInt, vBool, vStr, id, true_and, and_true, and_self, List.append_nil, List.nil_append, List.not_mem_nil, List.mem_cons, or_false, false_or, or_self, not_true_eq_false, not_false_eq_true, false_imp_iff, false_implies, List.map_nil, not_false_eq_true, List.contains_cons, List.contains_nil, Bool.or_false, Bool.false_or, Bool.true_or, Bool.or_true, Bool.and_true, Bool.true_and, implies_true, if_true, if_false, reduceCtorEq, Nat.reduceEqDiff, Nat.reduceBEq, Nat.reduceAdd, reduceIte, ↓reduceIte]
  rfl
 ·intro j hj
  simp only [intsD, bytesD, G_utf2, G_utf, Gam.add, calmE, F_lead, F_right, F_size, F_Next, F_Put, AV.flat, AV.flat.flatL, getD_iD, iD, List.length_map, goTG_val, goTG_new, goTG_up, goTG_none, goG_none, goG_new, goG_up, ne_eq, evK, evH, retHF, DRun_mk, runT_nil, runT_none, runT_guard, goT_val, goT_new, goT_store, goTH_true, goTH_false, evO, keys, Option.toList_some, Option.toList_none, nzL_nil, nzL_cons, nz_k, nz_sl, nz_nil, nz_agg, startL, evC, evV, goE_val, goE_new, goE_store, goH_true, goH_false, goG_val, lk_cons, lk_nil, lk_func, lk_int, lk_bool, lk_string, lk_slice, lk_agg, look_mk, St.effOf, eff, effCall, effBinC, isConst, effBin, effUn, effConv, effPick, effNil, effFold, fold1, effLoad, effStore, effFieldAddr, effField, fieldOf, sliceOf, effIndexAddr, effIndex, effLen, effExtract, effSlice, dats, bnd, effBuild, placesOf, effBuildSlice, effMakeSlice, effAppend, srcOf, fillA, chunk, seg, toD, toDs, put, eqAV, fieldsEq, leafEq, strip, unw, allB, selP_or, selP_and, tis, TyD.agg, AV.cells, AV.cell, allCell, vInt, vBool, vStr, subL_nil, subL_cons, upIds, AV.ids, AV.ids.idsL, AObj.ids, drops, Hp.get_cons, get_nil, retF, resL, one, fz, fz.fzL, List.map_cons, List.map_nil, List.nil_append, List.append_nil, List.cons_append, List.all_cons, List.all_nil, List.length_cons, List.length_nil, List.getElem?_cons_zero, List.getElem?_cons_succ, List.getD_cons_zero, List.getD_cons_succ, List.take_succ_cons, List.take_zero, List.drop_succ_cons, List.drop_zero, List.take_nil, List.drop_nil, List.contains_cons, List.contains_nil, Option.getD_some, Option.getD_none, Option.map_some, Option.map_none, if_true, if_false, true_and, and_true, and_self, or_self, or_false, false_or, false_and, and_false, reduceCtorEq, sel_and, sel_or, decide_eq_true_eq, Bool.and_eq_true, Bool.or_eq_true, Bool.and_true, Bool.true_and, Bool.or_false, Bool.false_or, Bool.true_or, Bool.or_true, Bool.not_true, Bool.not_false, Bool.false_eq_true, implies_true, not_false_eq_true, Nat.reduceLT, Nat.reduceEqDiff, Nat.reduceAdd, Nat.reduceMul, Nat.reduceMod, Nat.reduceLeDiff, Nat.reduceBEq, Nat.zero_add, Nat.add_zero, reduceIte, ↓reduceIte, List.not_mem_nil]
  by_cases hj2 : (j : Int) < l.length
  ·rw [if_pos hj2]
   refine ⟨by omega, ?_⟩
   obtain ⟨c, hc⟩ : ∃ c, l[j]? = some c := ⟨_, List.getElem?_eq_getElem (by omega)⟩
   have hpl := puts_len (l.take j)
   rw [List.length_take] at hpl
   have hcl := (Utf.put_length c).2
   rw [getD_at hc]
   split
   ·rename_i h1
    refine ⟨by omega, j + 1, by omega, by omega, Le.of (fun _ => 22) [] ?_⟩
    have ep : Utf.put c = [c] := by unfold Utf.put Utf.enc; rw [Utf.fix_of h1.1, if_pos h1.2]
    have ec : IntKind.u8.wrap c = c := by rw [IntKind.wrap_u8]; unfold Utf.isCp at h1; omega
    simp only [puts_snoc hc, ep, ec, List.map_append, List.length_append, List.length_map, List.length_cons, List.length_nil, List.map_cons, iD, Mt_tup, Mt_agg, Mt_fn, forall_eq, forall_eq_or_imp, ne_eq, List.all_cons, List.all_nil, pr, Nat.reduceLeDiff, slR_nil, slR_cons, hpR_nil, hpR_cells, hpR_row, idsR_nil, idsR_cons, mtE_v, mtE_sl, mtE_nil, mtE_refl, mtE_row, mtE_born, mtE_ptr, mtE_rp, mtE_agg, mtE_tup, mtE_fn, mtE_ep, MtL_nil, MtL_cons, Mt_v, Mt_sl, Mt_nil, Mt_refl, Mt_row, Mt_born, Mt_ptr, MtO_cells, MtO_row, liveIds, distinct, Dat.v.injEq, Dat.sl.injEq, Value.int.injEq, Value.bool.injEq, Value.string.injEq, lk_cons, lk_nil, subL_nil, subL_cons, upIds, AV.ids, AV.ids.idsL, AObj.ids, Hp.get_cons, get_nil, allCell, AV.cell, vInt, vBool, vStr, id, true_and, and_true, and_self, List.append_nil, List.nil_append, List.not_mem_nil, List.mem_cons, or_false, false_or, or_self, not_true_eq_false, not_false_eq_true, false_imp_iff, false_implies, List.map_nil, not_false_eq_true, List.contains_cons, List.contains_nil, Bool.or_false, Bool.false_or, Bool.true_or, Bool.or_true, Bool.and_true, Bool.true_and, implies_true, if_true, if_false, reduceCtorEq, Nat.reduceEqDiff, Nat.reduceBEq, Nat.reduceAdd, reduceIte, ↓reduceIte]
    exact w64 (by omega) (by omega)
   ·refine ⟨by omega, j + 1, by omega, by omega, Le.of (fun _ => 26) [] ?_⟩
    simp only [puts_snoc hc, List.map_append, List.length_append, List.length_map, Mt_tup, Mt_agg, Mt_fn, forall_eq, forall_eq_or_imp, ne_eq, List.all_cons, List.all_nil, pr, Nat.reduceLeDiff, slR_nil, slR_cons, hpR_nil, hpR_cells, hpR_row, idsR_nil, idsR_cons, mtE_v, mtE_sl, mtE_nil, mtE_refl, mtE_row, mtE_born, mtE_ptr, mtE_rp, mtE_agg, mtE_tup, mtE_fn, mtE_ep, MtL_nil, MtL_cons, Mt_v, Mt_sl, Mt_nil, Mt_refl, Mt_row, Mt_born, Mt_ptr, MtO_cells, MtO_row, liveIds, distinct, Dat.v.injEq, Dat.sl.injEq, Value.int.injEq, Value.bool.injEq, Value.string.injEq, lk_cons, lk_nil, subL_nil, subL_cons, upIds, AV.ids, AV.ids.idsL, AObj.ids, Hp.get_cons, get_nil, allCell, AV.cell, vInt, vBool, vStr, id, true_and, and_true, and_self, List.append_nil, List.nil_append, List.not_mem_nil, List.mem_cons, or_false, false_or, or_self, not_true_eq_false, not_false_eq_true, false_imp_iff, false_implies, List.map_nil, not_false_eq_true, List.contains_cons, List.contains_nil, Bool.or_false, Bool.false_or, Bool.true_or, Bool.or_true, Bool.and_true, Bool.true_and, implies_true, if_true, if_false, reduceCtorEq, Nat.reduceEqDiff, Nat.reduceBEq, Nat.reduceAdd, reduceIte, ↓reduceIte]
    exact w64 (by omega) (by omega)
  ·rw [if_neg hj2, List.take_of_length_le (by omega), byteOf_map]
   exact ⟨byteOf_all _, Sub.refl _⟩
theorem Text_calm : ∀ args sc res, F_Text args = some (sc, res) → sc → Calm Try.prog 69 args res := by
 intro args sc res h hs
 unfold F_Text at h
 split at h <;> cases h
 rename_i xs
 obtain ⟨h1, h2⟩ := hs
 have hb := Text_body (xs.map numOf) (by simpa using h2)
 rw [intsD, ← h1] at hb
 exact known_utf2.calm mixed rfl rfl hb
end Go.Proofs.Ytgbialeahdoelaa.Eng

end

section
namespace Go.Proofs.Ytgbialeahdoelaa.Eng
open Go Go.Proofs.Ytgbialeahdoelaa.Base
set_option maxRecDepth 100000
set_option linter.unusedSimpArgs false
def sB (s : ByteArray) : List Int := s.data.toList.map fun b => (b.toNat : Int)
theorem sB_rows (s : ByteArray) : s.data.toList.map byteRow = (sB s).map (iD .u8) := by
 rw [sB, List.map_map]; rfl
theorem sB_bytes (s : ByteArray) : Bytes (sB s) := fun x hx => by
 obtain ⟨b, -, rfl⟩ := List.mem_map.mp hx
 have := b.toNat_lt
 omega
theorem sB_len (s : ByteArray) : (sB s).length = s.size := by rw [sB, List.length_map, Array.length_toList]; rfl
theorem sB_str {l : List Int} (h : Bytes l) : sB (strOfNums l) = l := by
 unfold sB strOfNums
 simp only [List.map_map]
 conv => rhs; rw [← List.map_id l]
 refine List.map_congr_left fun x hx => ?_
 have := h x hx
 simp only [Function.comp, id]
 rw [UInt8.toNat_ofNat']
 omega
def nB (l : List UInt8) : List Int := l.map fun b => (b.toNat : Int)
theorem draws0 (Γ : Gam) : DrawOk Try.prog Γ (DRun Try.prog Gam.none) := Draws (Γ := Gam.none) mixed (Known.none Try.prog).ok (Known.none Try.prog).loc
theorem ba_size (l : List UInt8) : (⟨l.toArray⟩ : ByteArray).size = l.length := by rw [ByteArray.size]; simp
theorem ba_app (a b : List UInt8) : (⟨a.toArray⟩ : ByteArray) ++ ⟨b.toArray⟩ = ⟨(a ++ b).toArray⟩ := by
 apply ByteArray.ext
 simp
theorem ba_self (s : ByteArray) : (⟨s.data.toList.toArray⟩ : ByteArray) = s := by cases s; rfl
theorem size_toList (t : ByteArray) : t.data.toList.length = t.size := by rw [Array.length_toList]; rfl
theorem drop_at {α : Type} {l : List α} {j : Nat} {d : α} (h : l[j]? = some d) : l.drop j = d :: l.drop (j + 1) := by
 obtain ⟨hlt', rfl⟩ := List.getElem?_eq_some_iff.mp h
 exact List.drop_eq_getElem_cons hlt'
theorem take_at {α : Type} {l : List α} {j : Nat} {d : α} (h : l[j]? = some d) : l.take (j + 1) = l.take j ++ [d] := by rw [List.take_add_one, h]; rfl
theorem getD_map {α : Type} {f : α → List Dat} {l : List α} {j : Nat} {d : α} (h : l[j]? = some d) (z : List Dat) : (l.map f).getD (j : Int).toNat z = f d := by
 rw [Int.toNat_natCast, List.getD_eq_getElem?_getD, List.getElem?_map, h]; rfl
theorem byteRow_back (x : UInt8) : UInt8.ofNat (byteOf (byteRow x)).toNat = x := by simp [byteRow, byteOf]
theorem byteRows_ok (l : List UInt8) : (∀ r ∈ l.map byteRow, r = byteRow (UInt8.ofNat (byteOf r).toNat)) ∧ (l.map byteRow).map (fun r => UInt8.ofNat (byteOf r).toNat) = l := by
 refine ⟨fun r hr => ?_, ?_⟩
 ·obtain ⟨x, -, rfl⟩ := List.mem_map.mp hr
  rw [byteRow_back]
 ·rw [List.map_map]
  exact (List.map_congr_left fun x _ => byteRow_back x).trans (List.map_id l)
end Go.Proofs.Ytgbialeahdoelaa.Eng

end

section
namespace Go.Proofs
open Go Go.Shelf Go.RowKit
set_option maxRecDepth 100000
def Try.lays137_ren : Go.Shelf.Ren := ⟨fun | 137 => 67 | 217 => 77 | 266 => 86 | n => n, fun | 3 => 3 | 5 => 5 | 9 => 9 | n => n, fun | n => n⟩
theorem Try.lays137 : Go.Proofs.Lays.n137 Try.prog Try.lays137_ren := {
 mixed := by kernel_rfl
 f137 := Try.func67.trans (congrArg some (by kernel_rfl))
 f217 := Try.func77.trans (congrArg some (by kernel_rfl))
 f266 := Try.func86.trans (congrArg some (by kernel_rfl))
 t3 := Try.underlying3
 a3 := Try.isAgg3
 z3 := Try.sizeOf3
 v3 := Try.zeroValue3
 t5 := Try.underlying5
 a5 := Try.isAgg5
 z5 := Try.sizeOf5
 v5 := Try.zeroValue5
 t9 := Try.underlying9
 a9 := Try.isAgg9
 z9 := Try.sizeOf9
 v9 := Try.zeroValue9 }
theorem Try.strings_IndexByte (s : ByteArray) (c : Int) (w : World) : Calls Try.prog 67 #[.string s, .int .u8 c] w fun e w' => e = .returned (.int .i64 (Lib.indexByte s.data.toList c.toNat.toUInt8)) ∧ w' = w := Any.strings_IndexByte Try.lays137 s c w
end Go.Proofs

end

section
namespace Go.Proofs.Ytgbialeahdoelaa.Eng
open Go Go.Proofs.Ytgbialeahdoelaa.Base
set_option linter.unusedVariables false
def F_ib : List AV → Option (Prop × AV)
 | [.d (.v (.string s)), .d (.v (.int .u8 c))] => some (True, vInt .i64 (Lib.indexByte s.data.toList c.toNat.toUInt8))
 | _ => none
theorem ib_calm : ∀ args sc res, F_ib args = some (sc, res) → sc → Calm Try.prog 67 args res := by
 intro args sc res h hs
 unfold F_ib at h
 split at h <;> cases h
 rename_i s c
 refine ⟨⟨_, Try.func67, by kernel_rfl, by kernel_rfl⟩, rfl, fun C m w hp vals I hsz hv => ?_⟩
 obtain ⟨u, v, rfl⟩ : ∃ u v, vals = #[u, v] := by
  have h1 : vals.size = 2 := hsz
  obtain ⟨l⟩ := vals
  match l, h1 with
  | [u, v], _ => exact ⟨u, v, rfl⟩
 have hu := hv 0 u _ rfl rfl
 have hw := hv 1 v _ rfl rfl
 cases hu with
 | d hu =>
 cases hu
 cases hw with
 | d hw =>
 cases hw
 refine (Try.strings_IndexByte s c w).mono fun e w' ⟨e1, e2⟩ => ?_
 subst e2
 have b := Go.RowKit.Below.refl w'.heap.size w'
 exact ⟨_, e1, b.os, b.tape, b.output, b.size, b.block, .d (.v rfl)⟩
end Go.Proofs.Ytgbialeahdoelaa.Eng

end

section
namespace Go.Proofs.Ytgbialeahdoelaa.Eng
open Go
set_option linter.unusedVariables false
set_option linter.unusedSimpArgs false
section
variable {P : Program}
end
section
variable {P : Program} {Γ : Gam} {D : Array Oper → St → (St → Prop) → Prop} {C : Ctx}
def Wp (P : Program) (C : Ctx) (c : Code) (Q : Exit → St → Prop) (s : St) : Prop := ∀ (m : Nat → Value) (a : Act) (w : World), Sat C m s a w → c.wp P (Lift C Q) a w
theorem Wp.of (hG : Gok P Γ) (hD : DrawOk P Γ D) {c : Code} {Q : Exit → St → Prop} {s : St} (h : wpc P Γ D c Q s) : Wp P C c Q s := fun m a w S => wpc_ok hG hD c Q s m a w h S
theorem Wp.seq {x y : Code} {Q : Exit → St → Prop} {s : St} (h : Wp P C x (thenS (fun s => Wp P C y Q s) Q) s) : Wp P C (.seq x y) Q s := fun m a w S => by
 refine wp_seq (wp_mono (h m a w S) fun e a' w' hq => ?_)
 obtain ⟨s', m', S', hq⟩ := hq
 cases e with
 | normal => exact hq m' a' w' S'
 | _ => exact ⟨s', m', S', hq⟩
theorem Wp.block {id : Nat} {x : Code} {Q : Exit → St → Prop} {s : St} (h : Wp P C x (inBlockS id Q) s) : Wp P C (.block id x) Q s := fun m a w S => by
 refine wp_block (wp_mono (h m a w S) fun e a' w' hq => ?_)
 obtain ⟨s', m', S', hq⟩ := hq
 cases e with
 | exit j =>
  show if j = id then _ else _
  have hq : if j = id then Q .normal s' else Q (.exit j) s' := hq
  split
  ·rename_i e; rw [if_pos e] at hq; exact ⟨s', m', S', hq⟩
  ·rename_i e; rw [if_neg e] at hq; exact ⟨s', m', S', hq⟩
 | _ => exact ⟨s', m', S', hq⟩
theorem Wp.loop {x : Code} {Q : Exit → St → Prop} {s : St} {α : Type} (T : α → St) (I : α → Prop) (μ : α → Nat) (a0 : α) (h0 : I a0) (hle : Le s (T a0))
  (hs : ∀ a, I a → Wp P C x (thenS (fun s' => ∃ b, μ b < μ a ∧ I b ∧ Le s' (T b)) Q) (T a)) : Wp P C (.loop x) Q s := fun m a w S => by
 obtain ⟨m2, S2⟩ := S.le hle
 refine wp_loop_ghost (fun n a w => ∃ q m, Sat C m (T q) a w ∧ I q ∧ μ q = n) (μ a0) ⟨a0, m2, S2, h0, rfl⟩ fun n a w hJ => ?_
 obtain ⟨q, m, S, hI, rfl⟩ := hJ
 refine wp_mono (hs q hI m a w S) fun e a' w' hq => ?_
 obtain ⟨s', m', S', hq⟩ := hq
 cases e with
 | normal =>
  obtain ⟨b, hlt, hb, hle⟩ := hq
  obtain ⟨m2, S2⟩ := S'.le hle
  exact ⟨μ b, hlt, b, m2, S2, hb, rfl⟩
 | _ => exact ⟨s', m', S', hq⟩
theorem Wp.mono {c : Code} {Q Q' : Exit → St → Prop} {s : St} (h : Wp P C c Q s) (hQ : ∀ e s, Q e s → Q' e s) : Wp P C c Q' s := fun m a w S => wp_mono (h m a w S) fun e a' w' hq => by
 cases e with
 | _ => 
  obtain ⟨s', m', S', hq⟩ := hq
  exact ⟨s', m', S', hQ _ _ hq⟩
def BodyW (P : Program) (g : Nat) (args : List AV) (res : AV) : Prop :=
 ∃ fn c, P.funcs[g]? = some fn ∧ (fn.name == "runtime.NumGoroutine") = false ∧ fn.body = some c ∧ (args.length ≤ fn.ntmps ∧ fn.ntmps ≤ 10000) ∧ ∀ C, Wp P C c (retQ P fn res) { n := fn.ntmps, used := [], sl := startL 0 args, hp := [] }
theorem BodyW.of {g : Nat} {args : List AV} {res : AV} {fn : Func} {c : Code} {n : Nat} (h1 : P.funcs[g]? = some fn) (hn : fn.ntmps = n) (h2 : (fn.name == "runtime.NumGoroutine") = false) (h3 : fn.body = some c) {rs : List ResultVar} (hr : fn.results = rs.toArray)
  (hl : (Nat.ble args.length n && Nat.ble n 10000) = true) (h : ∀ C, Wp P C c (retR P rs res) ⟨n, [], startL 0 args, []⟩) : BodyW P g args res := ⟨fn, c, h1, h2, h3, by rw [hn]; rw [Bool.and_eq_true] at hl; exact ⟨Nat.le_of_ble_eq_true hl.1, Nat.le_of_ble_eq_true hl.2⟩, by
 have hr' : rs = fn.results.toList := by rw [hr]
 have e : retQ P fn res = retR P rs res := by subst hr'; funext e s; cases e <;> rfl
 rw [hn, e]; exact h⟩
theorem BodyW.calm {g : Nat} {args : List AV} {res : AV} (hids : AV.ids.idsL args = []) (hres : res.ids = []) (h : BodyW P g args res) : Calm P g args res := by
 obtain ⟨fn, c, h1, h2, h3, h4, h5⟩ := h
 refine ⟨⟨fn, h1, h2, by rw [h3]; rfl⟩, hres, fun C m w hp vals I hsz hv => ?_⟩
 let C' : Ctx := ⟨w, fun _ => False, im C m w hp, fun b hb => hb.1, fun _ _ h => h, m, I.tab⟩
 have him : ∀ b, im C m w hp b → im C' m w [] b ∧ w.heap[b]? = w.heap[b]? := fun b hb => ⟨⟨hb.1, .inl hb, fun o obj ho => by simp [Hp.get] at ho⟩, rfl⟩
 have I' : Inv C' m w [] := ⟨rfl, rfl, rfl, Nat.le_refl _, fun _ _ _ => rfl, fun o obj ho => by simp [Hp.get] at ho, fun o o' obj obj' b ho => by simp [Hp.get] at ho, fun o obj b ho => by simp [Hp.get] at ho⟩
 have S : Sat C' m { n := fn.ntmps, used := [], sl := startL 0 args, hp := [] } { tmps := vals ++ Array.replicate (fn.ntmps - vals.size) undef, defers := [] } w := by
  refine ⟨I', by simp; omega, rfl, fun t c hl => ?_, fun o obj ho => by simp [Hp.get] at ho, h4.2, fun _ _ => rfl⟩
  obtain ⟨_, hc⟩ := startL_lookup args 0 t c hl
  simp only [Nat.sub_zero] at hc
  have ht : t < vals.size := by rw [hsz]; exact (List.getElem?_eq_some_iff.1 hc).1
  have hcm := idsL_nil hids c (List.mem_of_getElem? hc)
  refine ⟨?_, fun i hi => by rw [hcm] at hi; cases hi⟩
  have e : (vals ++ Array.replicate (fn.ntmps - vals.size) undef).getD t undef = vals.getD t undef := by
   simp [Array.getElem?_append, ht]
  simp only [e]
  exact (hv t _ c (by simp [ht]) hc).mono him (fun _ _ => rfl)
 refine calls_of_wp h1 h3 (wp_mono (h5 _ m _ w S) fun e a' w' hq => ?_)
 obtain ⟨s', m', S', hq⟩ := hq
 have fin : retQ P fn res .ret s' → a'.defers = [] ∧ ∃ v, (results fn a'.tmps).run P w' = .ok v w' ∧ ∃ v', Ending.returned v = .returned v' ∧ w'.os = w.os ∧ w'.tape = w.tape ∧ w'.output = w.output ∧ w.heap.size ≤ w'.heap.size ∧
   (∀ k, k < w.heap.size → w'.heap[k]? = w.heap[k]?) ∧ Val w' (im C m w' hp) m v' res := fun hq => by
  refine ⟨S'.defers, ?_⟩
  unfold retQ at hq
  simp only at hq
  split at hq
  case h_2 => exact hq.elim
  rename_i l hl
  split at hq
  case h_2 => exact hq.elim
  rename_i c' k hc'
  obtain ⟨vs, q1, q2, q3⟩ := results_ok S' _ l hl
  have hone := one_val q2 q3
  have hfz := fz_val S'.inv (drops_sub k s'.hp) hc' (fun o ho => by rw [drops_get, if_pos ho]) hone
  replace hfz := hfz.sub hq
  have hsame : ∀ k, k < w.heap.size → w'.heap[k]? = w.heap[k]? := fun k hk => S'.inv.frame k hk (fun h => h)
  obtain ⟨Iw, _⟩ := I.ext S'.inv.os S'.inv.tape S'.inv.output S'.inv.size hsame
  refine ⟨_, results_run q1, _, rfl, S'.inv.os, S'.inv.tape, S'.inv.output, S'.inv.size, hsame, hfz.mono (fun b hb => ⟨?_, rfl⟩) (fun i hi => by rw [hres] at hi; cases hi)⟩
  obtain ⟨b1, b2, _⟩ := hb
  rcases b2 with b2 | b2 | b2
  ·exact ⟨b1, b2.2.1, b2.2.2⟩
  ·exact b2.elim
  ·have b2 : w.heap.size ≤ b := b2
   refine ⟨b1, .inr (.inr (Nat.le_trans I.size b2)), fun o obj ho e => ?_⟩
   have := (I.live o obj ho).blk_lt b e
   omega
 cases e with
 | normal => exact fin hq
 | ret => exact fin hq
 | _ => exact hq.elim
end
end Go.Proofs.Ytgbialeahdoelaa.Eng

end

section
namespace Go.Proofs.Ytgbialeahdoelaa.Eng
open Go Go.Proofs.Ytgbialeahdoelaa.Base
set_option maxRecDepth 100000
set_option linter.unusedSimpArgs false
set_option linter.unusedVariables false
def blkB (c : Int) : Bool := decide (c = 32 ∨ c = 9 ∨ c = 10 ∨ c = 13)
def digB (c : Int) : Bool := decide (48 ≤ c ∧ c ≤ 57)
def ltrB (c : Int) : Bool := decide ((97 ≤ c ∧ c ≤ 122) ∨ (65 ≤ c ∧ c ≤ 90))
def hexB (c : Int) : Bool := decide ((48 ≤ c ∧ c ≤ 57) ∨ (97 ≤ c ∧ c ≤ 102) ∨ (65 ≤ c ∧ c ≤ 70))
def F_pr (p : Int → Bool) : List AV → Option (Prop × AV)
 | [.d (.v (.int .u8 c))] => some (True, vBool (p c))
 | _ => none
def inB (s : ByteArray) (c : Int) : Bool := decide (Lib.indexByte s.data.toList c.toNat.toUInt8 ≥ 0)
def runN (p : Int → Bool) (l : List Int) (a : Nat) : Nat := a + ((l.drop a).takeWhile p).length
theorem runN_step {p : Int → Bool} {l : List Int} {k : Nat} (h : k < l.length) : runN p l k = if p (l.getD k 0) = true then runN p l (k + 1) else k := by
 obtain ⟨x, hx⟩ : ∃ x, l[k]? = some x := ⟨_, List.getElem?_eq_getElem h⟩
 have hg : l.getD k 0 = x := by rw [List.getD_eq_getElem?_getD, hx]; rfl
 rw [hg]
 unfold runN
 rw [drop_at hx, List.takeWhile_cons]
 split
 ·simp only [List.length_cons]; omega
 ·rfl
theorem runN_end {p : Int → Bool} {l : List Int} {k : Nat} (h : l.length ≤ k) : runN p l k = k := by
 unfold runN; rw [List.drop_eq_nil_of_le h]; rfl
end Go.Proofs.Ytgbialeahdoelaa.Eng

end

section
namespace Go.Proofs.Ytgbialeahdoelaa.Eng
open Go Go.Proofs.Ytgbialeahdoelaa.Base
set_option maxRecDepth 100000
set_option linter.unusedSimpArgs false
set_option linter.unusedVariables false
def dotS : ByteArray := ⟨#[46, 43, 45, 95]⟩
def goB (c : Int) : Bool := ltrB c || digB c || inB dotS c
end Go.Proofs.Ytgbialeahdoelaa.Eng

end

section
namespace Go.Proofs.Ytgbialeahdoelaa.Eng
open Go Go.Proofs.Ytgbialeahdoelaa.Base
set_option maxRecDepth 100000
set_option linter.unusedSimpArgs false
set_option linter.unusedVariables false
def oneV (p : Int → Bool) (l : List Int) (a : Nat) : Bool := decide (a < l.length) && p (l.getD a 0)
end Go.Proofs.Ytgbialeahdoelaa.Eng

end

section
namespace Go.Proofs.Ytgbialeahdoelaa.Eng
open Go Go.Proofs.Ytgbialeahdoelaa.Base
set_option maxRecDepth 100000
set_option linter.unusedSimpArgs false
set_option linter.unusedVariables false
theorem runN_le {p : Int → Bool} {l : List Int} {a : Nat} (h : a ≤ l.length) : a ≤ runN p l a ∧ runN p l a ≤ l.length := by
 have := (List.takeWhile_sublist (p := p) (l := l.drop a)).length_le
 rw [List.length_drop] at this
 unfold runN; omega
end Go.Proofs.Ytgbialeahdoelaa.Eng

end

section
namespace Go.Proofs.Ytgbialeahdoelaa.Jstr
open Go.RowKit Go.Proofs.YtgbialeahdoelaaW.PrintWords Go.Proofs.Ytgbialeahdoelaa.Base Go.Proofs.Ytgbialeahdoelaa.Utf

def right (l : List Int) : Prop := ∀ x ∈ l, 0 ≤ x ∧ x ≤ 65535
instance (l : List Int) : Decidable (right l) := inferInstanceAs (Decidable (∀ x ∈ l, 0 ≤ x ∧ x ≤ 65535))
theorem right_cons {x : Int} {l : List Int} : right (x :: l) ↔ (0 ≤ x ∧ x ≤ 65535) ∧ right l := by simp [right]
def hexd (n : Int) : Int := if n < 10 then 48 + n else 87 + n
def four (r : Int) : List Int := [hexd (r / 4096), hexd (r / 256 % 16), hexd (r / 16 % 16), hexd (r % 16)]
def short (r : Int) : Option Int := if r = 34 then some 34 else if r = 92 then some 92 else if r = 8 then some 98 else if r = 12 then some 102 else if r = 10 then some 110 else if r = 13 then some 114 else if r = 9 then some 116 else none
def spell (r : Int) : List Int :=
 match short r with
 | some c => [92, c]
 | none => if r < 32 ∨ (55296 ≤ r ∧ r < 57344) then 92 :: 117 :: four r else put r
def pairs : List Int → List Int
 | [] => []
 | [n] => [n]
 | n :: m :: t => if (55296 ≤ n ∧ n < 56320) ∧ (56320 ≤ m ∧ m < 57344) then (65536 + (n - 55296) * 1024 + m - 56320) :: pairs t else n :: pairs (m :: t)
def body (l : List Int) : List Int := (pairs l).flatMap spell
def spelled (l : List Int) : List Int := 34 :: (body l ++ [34])

theorem pairs_len : ∀ l : List Int, (pairs l).length ≤ l.length
 | [] => by simp [pairs]
 | [n] => by simp [pairs]
 | n :: m :: t => by
  rw [pairs]
  split
  ·have := pairs_len t
   simp only [List.length_cons]
   omega
  ·have := pairs_len (m :: t)
   simp only [List.length_cons] at this ⊢
   omega
theorem pairs_range : ∀ {l : List Int}, right l → ∀ x ∈ pairs l, 0 ≤ x ∧ x ≤ 1114111
 | [], _ => by simp [pairs]
 | [n], h => by
  have := (right_cons.1 h).1
  intro x hx
  simp [pairs] at hx
  omega
 | n :: m :: t, h => by
  have h1 := (right_cons.1 h).1
  have h2 := right_cons.1 (right_cons.1 h).2
  intro x hx
  rw [pairs] at hx
  split at hx
  ·rcases List.mem_cons.1 hx with e | hx
   ·omega
   ·exact pairs_range h2.2 x hx
  ·rcases List.mem_cons.1 hx with e | hx
   ·omega
   ·exact pairs_range (right_cons.1 h).2 x hx
theorem spell_len (r : Int) : 1 ≤ (spell r).length ∧ (spell r).length ≤ 6 := by
 unfold spell
 have := put_length r
 split
 ·simp
 ·split
  ·simp [four]
  ·omega
theorem flat_len (l : List Int) : (l.flatMap spell).length ≤ 6 * l.length := by
 induction l with
 | nil => simp
 | cons a l ih =>
  have := spell_len a
  simp only [List.flatMap_cons, List.length_append, List.length_cons]
  omega
theorem body_len (l : List Int) : (body l).length ≤ 6 * l.length := by
 have h1 := flat_len (pairs l)
 have h2 := pairs_len l
 unfold body
 omega
end Go.Proofs.Ytgbialeahdoelaa.Jstr

end

section
namespace Go.Proofs.Ytgbialeahdoelaa.Jstr
open Go.RowKit Go.Proofs.YtgbialeahdoelaaW.PrintWords Go.Proofs.Ytgbialeahdoelaa.Base Go.Proofs.Ytgbialeahdoelaa.Utf

def hexv (c : Int) : Int := if 48 ≤ c ∧ c ≤ 57 then c - 48 else if 97 ≤ c ∧ c ≤ 102 then c - 87 else if 65 ≤ c ∧ c ≤ 70 then c - 55 else -1
def esc (c : Int) : Prop := c = 34 ∨ c = 92 ∨ c = 47 ∨ c = 98 ∨ c = 102 ∨ c = 110 ∨ c = 114 ∨ c = 116
instance (c : Int) : Decidable (esc c) := by unfold esc; infer_instance
def escv (c : Int) : Int := if c = 98 then 8 else if c = 102 then 12 else if c = 110 then 10 else if c = 114 then 13 else if c = 116 then 9 else c
def pr (r : Int) : List Int := if r < 65536 then [r] else [55296 + (r - 65536) / 1024, 56320 + (r - 65536) % 1024]
inductive Reads : List Int → List Int → Prop
 | done : Reads [34] []
 | cp {r : Int} {t l : List Int} : isCp r → 32 ≤ r → r ≠ 34 → r ≠ 92 → Reads t l → Reads (enc r ++ t) (pr r ++ l)
 | u {a b c d : Int} {t l : List Int} : 0 ≤ hexv a → 0 ≤ hexv b → 0 ≤ hexv c → 0 ≤ hexv d → Reads t l → Reads (92 :: 117 :: a :: b :: c :: d :: t) ((((hexv a * 16 + hexv b) * 16 + hexv c) * 16 + hexv d) :: l)
 | e {c : Int} {t l : List Int} : esc c → Reads t l → Reads (92 :: c :: t) (escv c :: l)
inductive Jt : List Int → Prop
 | done : Jt [34]
 | ch {c : Int} {t : List Int} : 32 ≤ c → c ≠ 34 → c ≠ 92 → Jt t → Jt (c :: t)
 | u {a b c d : Int} {t : List Int} : 0 ≤ hexv a → 0 ≤ hexv b → 0 ≤ hexv c → 0 ≤ hexv d → Jt t → Jt (92 :: 117 :: a :: b :: c :: d :: t)
 | e {c : Int} {t : List Int} : esc c → Jt t → Jt (92 :: c :: t)

theorem hexv_lt (c : Int) : hexv c < 16 := by
 unfold hexv
 repeat' split
 all_goals omega
theorem hexv_range {c : Int} (h : 0 ≤ hexv c) : 48 ≤ c ∧ c ≤ 102 := by
 unfold hexv at h
 repeat' split at h
 all_goals omega
theorem hexv_hexd {n : Int} (h0 : 0 ≤ n) (h1 : n < 16) : hexv (hexd n) = n := by
 unfold hexd hexv
 split
 ·rw [if_pos (by omega)]; omega
 ·rw [if_neg (by omega), if_pos (by omega)]; omega
theorem esc_range {c : Int} (h : esc c) : 34 ≤ c ∧ c ≤ 116 ∧ c ≠ 117 := by
 unfold esc at h
 omega
theorem short_esc {n c : Int} (h : short n = some c) : esc c ∧ escv c = n := by
 have key : ∀ a b : Int, some a = some b → esc a → escv a = n → esc b ∧ escv b = n := by
  intro a b e h1 h2
  obtain rfl := Option.some.inj e
  exact ⟨h1, h2⟩
 unfold short at h
 split at h
 ·subst_vars; exact key _ _ h (by decide) (by decide)
 split at h
 ·subst_vars; exact key _ _ h (by decide) (by decide)
 split at h
 ·subst_vars; exact key _ _ h (by decide) (by decide)
 split at h
 ·subst_vars; exact key _ _ h (by decide) (by decide)
 split at h
 ·subst_vars; exact key _ _ h (by decide) (by decide)
 split at h
 ·subst_vars; exact key _ _ h (by decide) (by decide)
 split at h
 ·subst_vars; exact key _ _ h (by decide) (by decide)
 ·exact absurd h (by simp)
theorem short_not {n : Int} (h : short n = none) : n ≠ 34 ∧ n ≠ 92 := by
 constructor
 ·rintro rfl; exact absurd h (by decide)
 ·rintro rfl; exact absurd h (by decide)
theorem short_none {n : Int} (h : 92 < n) : short n = none := by
 unfold short
 rw [if_neg (by omega), if_neg (by omega), if_neg (by omega), if_neg (by omega), if_neg (by omega), if_neg (by omega), if_neg (by omega)]
theorem reads_spell {n : Int} {t l : List Int} (h0 : 0 ≤ n) (h1 : n ≤ 65535) (h : Reads t l) : Reads (spell n ++ t) (n :: l) := by
 unfold spell
 rcases hs : short n with _ | c
 ·simp only
  split
  ·rename_i hr
   have := @Reads.u (hexd (n / 4096)) (hexd (n / 256 % 16)) (hexd (n / 16 % 16)) (hexd (n % 16)) t l
   rw [hexv_hexd (by omega) (by omega), hexv_hexd (by omega) (by omega), hexv_hexd (by omega) (by omega), hexv_hexd (by omega) (by omega)] at this
   have h2 := this (by omega) (by omega) (by omega) (by omega) h
   rw [show ((n / 4096 * 16 + n / 256 % 16) * 16 + n / 16 % 16) * 16 + n % 16 = n by omega] at h2
   exact h2
  ·rename_i hr
   have hcp : isCp n := ⟨h0, by omega, by omega⟩
   have h2 := Reads.cp hcp (by omega) (short_not hs).1 (short_not hs).2 h
   unfold put
   rw [fix_of hcp]
   unfold pr at h2
   rw [if_pos (by omega)] at h2
   exact h2
 ·obtain ⟨h2, h3⟩ := short_esc hs
  have := Reads.e h2 h
  rw [h3] at this
  exact this
theorem body_single {c d : Int} {t : List Int} (h : ¬ ((55296 ≤ c ∧ c < 56320) ∧ (56320 ≤ d ∧ d < 57344))) : body (c :: d :: t) = spell c ++ body (d :: t) := by
 unfold body
 rw [pairs, if_neg h]
 rfl
theorem body_double {c d : Int} {t : List Int} (h : (55296 ≤ c ∧ c < 56320) ∧ (56320 ≤ d ∧ d < 57344)) : body (c :: d :: t) = enc (65536 + (c - 55296) * 1024 + d - 56320) ++ body t := by
 unfold body
 rw [pairs, if_pos h]
 have hcp : isCp (65536 + (c - 55296) * 1024 + d - 56320) := ⟨by omega, by omega, by omega⟩
 rw [List.flatMap_cons]
 congr 1
 unfold spell
 rw [short_none (by omega)]
 simp only
 rw [if_neg (by omega)]
 unfold put
 rw [fix_of hcp]
theorem body_one (n : Int) : body [n] = spell n ++ body [] := by
 simp [body, pairs]
theorem reads_body : ∀ (l : List Int), right l → Reads (body l ++ [34]) l
 | [], _ => by
  simp only [body, pairs, List.flatMap_nil, List.nil_append]
  exact Reads.done
 | [n], h => by
  have h1 := (right_cons.1 h).1
  rw [body_one]
  simp only [body, pairs, List.flatMap_nil, List.append_nil]
  exact reads_spell h1.1 h1.2 Reads.done
 | n :: m :: t, h => by
  have h1 := (right_cons.1 h).1
  have h2 := right_cons.1 (right_cons.1 h).2
  by_cases hp : (55296 ≤ n ∧ n < 56320) ∧ (56320 ≤ m ∧ m < 57344)
  ·rw [body_double hp, List.append_assoc]
   have hcp : isCp (65536 + (n - 55296) * 1024 + m - 56320) := ⟨by omega, by omega, by omega⟩
   have h3 := Reads.cp hcp (by omega) (by omega) (by omega) (reads_body t h2.2)
   unfold pr at h3
   rw [if_neg (by omega), show 55296 + (65536 + (n - 55296) * 1024 + m - 56320 - 65536) / 1024 = n by omega, show 56320 + (65536 + (n - 55296) * 1024 + m - 56320 - 65536) % 1024 = m by omega] at h3
   exact h3
  ·rw [body_single hp, List.append_assoc]
   exact reads_spell h1.1 h1.2 (reads_body (m :: t) (right_cons.1 h).2)
theorem enc_low {c : Int} (h : c < 128) : enc c = [c] := by
 unfold enc
 rw [if_pos h]
theorem reads_cps {t l : List Int} (h : Reads t l) : ∃ rs, (∀ r ∈ rs, isCp r) ∧ encAll rs = t := by
 have low : ∀ {c : Int} {rs : List Int}, 0 ≤ c → c < 128 → (∀ r ∈ rs, isCp r) → (∀ r ∈ c :: rs, isCp r) ∧ encAll (c :: rs) = c :: encAll rs := by
  intro c rs h0 h1 h2
  refine ⟨?_, by rw [encAll_cons, enc_low h1]; rfl⟩
  intro r hr
  rcases List.mem_cons.1 hr with rfl | hr
  ·exact ⟨h0, by omega, by omega⟩
  ·exact h2 r hr
 induction h with
 | done => exact ⟨[34], by simp [isCp], rfl⟩
 | @cp r t l h1 h2 h3 h4 _ ih =>
  obtain ⟨rs, h5, rfl⟩ := ih
  refine ⟨r :: rs, ?_, encAll_cons _ _⟩
  intro x hx
  rcases List.mem_cons.1 hx with rfl | hx
  ·exact h1
  ·exact h5 x hx
 | @u a b c d t l h1 h2 h3 h4 _ ih =>
  obtain ⟨rs, h5, rfl⟩ := ih
  have r1 := hexv_range h1
  have r2 := hexv_range h2
  have r3 := hexv_range h3
  have r4 := hexv_range h4
  obtain ⟨p4, q4⟩ := low (c := d) (by omega) (by omega) h5
  obtain ⟨p3, q3⟩ := low (c := c) (by omega) (by omega) p4
  obtain ⟨p2, q2⟩ := low (c := b) (by omega) (by omega) p3
  obtain ⟨p1, q1⟩ := low (c := a) (by omega) (by omega) p2
  obtain ⟨p0, q0⟩ := low (c := 117) (by omega) (by omega) p1
  obtain ⟨p, q⟩ := low (c := 92) (by omega) (by omega) p0
  exact ⟨_, p, by rw [q, q0, q1, q2, q3, q4]⟩
 | @e c t l h1 _ ih =>
  obtain ⟨rs, h5, rfl⟩ := ih
  have r1 := esc_range h1
  obtain ⟨p0, q0⟩ := low (c := c) (by omega) (by omega) h5
  obtain ⟨p, q⟩ := low (c := 92) (by omega) (by omega) p0
  exact ⟨_, p, by rw [q, q0]⟩
theorem enc_high {r : Int} (h : isCp r) (h1 : 128 ≤ r) : ∀ x ∈ enc r, 128 ≤ x := by
 unfold isCp at h
 intro x hx
 unfold enc at hx
 repeat' split at hx
 all_goals simp only [List.mem_cons, List.not_mem_nil, or_false] at hx
 all_goals omega
theorem jt_enc {r : Int} {t : List Int} (h : isCp r) (h32 : 32 ≤ r) (h34 : r ≠ 34) (h92 : r ≠ 92) (ht : Jt t) : Jt (enc r ++ t) := by
 by_cases h1 : r < 128
 ·rw [enc_low h1]
  exact Jt.ch h32 h34 h92 ht
 ·have key : ∀ p : List Int, (∀ x ∈ p, 128 ≤ x) → Jt (p ++ t) := by
   intro p
   induction p with
   | nil => intro _; exact ht
   | cons a p ih =>
    intro hp
    have := hp a (by simp)
    exact Jt.ch (by omega) (by omega) (by omega) (ih fun x hx => hp x (by simp [hx]))
  exact key _ (enc_high h (by omega))
theorem reads_jt {t l : List Int} (h : Reads t l) : Jt t := by
 induction h with
 | done => exact Jt.done
 | cp h1 h2 h3 h4 _ ih => exact jt_enc h1 h2 h3 h4 ih
 | u h1 h2 h3 h4 _ ih => exact Jt.u h1 h2 h3 h4 ih
 | e h1 _ ih => exact Jt.e h1 ih
end Go.Proofs.Ytgbialeahdoelaa.Jstr

end

section
namespace Go.Proofs.Ytgbialeahdoelaa.Jlex
open Go.RowKit Go.Proofs.YtgbialeahdoelaaW.PrintWords Go.Proofs.Ytgbialeahdoelaa.Base Go.Proofs.Ytgbialeahdoelaa.Utf Go.Proofs.Ytgbialeahdoelaa.Jstr

def dig (c : Int) : Bool := decide (48 ≤ c ∧ c ≤ 57)
def hexb (c : Int) : Bool := decide (0 ≤ hexv c)
def blk (c : Int) : Bool := decide (c = 32 ∨ c = 9 ∨ c = 10 ∨ c = 13)
def go (c : Int) : Bool := decide ((97 ≤ c ∧ c ≤ 122) ∨ (65 ≤ c ∧ c ≤ 90) ∨ (48 ≤ c ∧ c ≤ 57) ∨ c = 46 ∨ c = 43 ∨ c = 45 ∨ c = 95)
def goes : List Int → Bool
 | [] => false
 | c :: _ => go c
def dl (l : List Int) : Nat := (l.takeWhile dig).length
def nE3 (u : List Int) : Option Nat := if dl u = 0 then none else if goes (u.drop (dl u)) = true then none else some (dl u)
def nE2 (u : List Int) : Option Nat :=
 match u with
 | [] => some 0
 | c :: t => if c = 101 ∨ c = 69 then (match t with
  | [] => none
  | s :: t' => if s = 43 ∨ s = 45 then (nE3 t').map (· + 2) else (nE3 (s :: t')).map (· + 1)) else if go c = true then none else some 0
def nE1 (u : List Int) : Option Nat :=
 match u with
 | [] => nE2 []
 | c :: t => if c = 46 then (if dl t = 0 then none else (nE2 (t.drop (dl t))).map (· + (1 + dl t))) else nE2 (c :: t)
def nE0 (u : List Int) : Option Nat :=
 match u with
 | [] => none
 | c :: t => if c = 48 then (nE1 t).map (· + 1) else if dl (c :: t) = 0 then none else (nE1 ((c :: t).drop (dl (c :: t)))).map (· + dl (c :: t))
def numLen (u : List Int) : Option Nat :=
 match u with
 | [] => none
 | c :: t => if c = 45 then (nE0 t).map (· + 1) else nE0 (c :: t)
def textLen : List Int → Option Nat
 | [] => none
 | [c] => if c = 34 then some 1 else none
 | c :: d :: t => if c = 34 then some 1 else if c < 32 then none else if c = 92 then
   (if d = 117 then (match t with
    | p :: q :: r :: s :: t' => if 0 ≤ hexv p ∧ 0 ≤ hexv q ∧ 0 ≤ hexv r ∧ 0 ≤ hexv s then (textLen t').map (· + 6) else none
    | _ => none)
   else if esc d then (textLen t).map (· + 2) else none)
  else (textLen (d :: t)).map (· + 1)
def wordTok (t : List Int) : Int × Option Nat :=
 if t.take 4 = [116, 114, 117, 101] ∧ goes (t.drop 4) = false then (9, some 4)
 else if t.take 5 = [102, 97, 108, 115, 101] ∧ goes (t.drop 5) = false then (10, some 5)
 else if t.take 4 = [110, 117, 108, 108] ∧ goes (t.drop 4) = false then (11, some 4) else (0, none)
def sign (c : Int) : Option Int := if c = 123 then some 1 else if c = 125 then some 2 else if c = 91 then some 3 else if c = 93 then some 4 else if c = 58 then some 5 else if c = 44 then some 6 else none
def tok (l : List Int) : Int × Option Nat :=
 match l with
 | [] => (0, none)
 | c :: t => match sign c with
  | some k => (k, some 1)
  | none => if c = 34 then (7, (textLen t).map (· + 1)) else if c = 45 ∨ dig c = true then (8, numLen (c :: t)) else wordTok (c :: t)
inductive Toks : List Int → Int → List (Int × Int × Int) → Option Int → Prop
 | nil {b : List Int} {i : Int} : (∀ x ∈ b, blk x = true) → Toks b i [] none
 | bad {b : List Int} {c : Int} {t : List Int} {i : Int} : (∀ x ∈ b, blk x = true) → blk c = false → (tok (c :: t)).2 = none → Toks (b ++ c :: t) i [] (some (i + (b.length : Int)))
 | cons {b : List Int} {c : Int} {t : List Int} {i k : Int} {n : Nat} {ts : List (Int × Int × Int)} {e : Option Int} : (∀ x ∈ b, blk x = true) → blk c = false → tok (c :: t) = (k, some n) → Toks ((c :: t).drop n) (i + (b.length : Int) + (n : Int)) ts e →
   Toks (b ++ c :: t) i ((k, i + (b.length : Int), i + (b.length : Int) + (n : Int)) :: ts) e

theorem dl_le (l : List Int) : dl l ≤ l.length := (List.takeWhile_sublist _).length_le
theorem nE3_le {u : List Int} {n : Nat} (h : nE3 u = some n) : 1 ≤ n ∧ n ≤ u.length := by
 unfold nE3 at h
 have := dl_le u
 split at h
 ·simp at h
 ·split at h
  ·simp at h
  ·simp only [Option.some.injEq] at h
   omega
theorem map_some {f : Nat → Nat} {o : Option Nat} {n : Nat} (h : o.map f = some n) : ∃ m, o = some m ∧ n = f m := by
 cases o with
 | none => simp at h
 | some m => exact ⟨m, rfl, by simpa using h.symm⟩
theorem nE2_le {u : List Int} {n : Nat} (h : nE2 u = some n) : n ≤ u.length := by
 unfold nE2 at h
 split at h
 ·simp at h; omega
 ·split at h
  ·split at h
   ·simp at h
   ·split at h
    ·obtain ⟨m, h1, rfl⟩ := map_some h
     have := nE3_le h1
     simp only [List.length_cons]
     omega
    ·obtain ⟨m, h1, rfl⟩ := map_some h
     have := nE3_le h1
     simp only [List.length_cons] at this ⊢
     omega
  ·split at h
   ·simp at h
   ·simp at h; omega
theorem nE1_le {u : List Int} {n : Nat} (h : nE1 u = some n) : n ≤ u.length := by
 unfold nE1 at h
 split at h
 ·exact nE2_le h
 ·rename_i c t
  split at h
  ·split at h
   ·simp at h
   ·obtain ⟨m, h1, rfl⟩ := map_some h
    have h2 := nE2_le h1
    have h3 := dl_le t
    simp only [List.length_drop] at h2
    simp only [List.length_cons]
    omega
  ·exact nE2_le h
theorem nE0_le {u : List Int} {n : Nat} (h : nE0 u = some n) : 1 ≤ n ∧ n ≤ u.length := by
 unfold nE0 at h
 split at h
 ·simp at h
 ·rename_i c t
  split at h
  ·obtain ⟨m, h1, rfl⟩ := map_some h
   have h2 := nE1_le h1
   simp only [List.length_cons]
   omega
  ·split at h
   ·simp at h
   ·obtain ⟨m, h1, rfl⟩ := map_some h
    have h2 := nE1_le h1
    have h3 := dl_le (c :: t)
    rw [List.length_drop] at h2
    omega
theorem numLen_le {u : List Int} {n : Nat} (h : numLen u = some n) : 1 ≤ n ∧ n ≤ u.length := by
 unfold numLen at h
 split at h
 ·simp at h
 ·split at h
  ·obtain ⟨m, h1, rfl⟩ := map_some h
   have h2 := nE0_le h1
   simp only [List.length_cons]
   omega
  ·exact nE0_le h
theorem textLen_cons (c d : Int) (t : List Int) : textLen (c :: d :: t) = if c = 34 then some 1 else if c < 32 then none else if c = 92 then
   (if d = 117 then (match t with
    | p :: q :: r :: s :: t' => if 0 ≤ hexv p ∧ 0 ≤ hexv q ∧ 0 ≤ hexv r ∧ 0 ≤ hexv s then (textLen t').map (· + 6) else none
    | _ => none)
   else if esc d then (textLen t).map (· + 2) else none)
  else (textLen (d :: t)).map (· + 1) := by
 rw [textLen.eq_def]
def hex4 : List Int → Prop
 | p :: q :: r :: s :: _ => 0 ≤ hexv p ∧ 0 ≤ hexv q ∧ 0 ≤ hexv r ∧ 0 ≤ hexv s
 | _ => False
theorem hex4_len {t : List Int} (h : hex4 t) : 4 ≤ t.length := by
 rcases t with _ | ⟨p, _ | ⟨q, _ | ⟨r, _ | ⟨s, t⟩⟩⟩⟩
 ·exact h.elim
 ·exact h.elim
 ·exact h.elim
 ·exact h.elim
 ·simp
theorem textLen_u (t : List Int) : (hex4 t → textLen (92 :: 117 :: t) = (textLen (t.drop 4)).map (· + 6)) ∧ (¬ hex4 t → textLen (92 :: 117 :: t) = none) := by
 rw [textLen_cons, if_neg (by decide), if_neg (by decide), if_pos rfl, if_pos rfl]
 rcases t with _ | ⟨p, _ | ⟨q, _ | ⟨r, _ | ⟨s, t⟩⟩⟩⟩
 ·exact ⟨fun h => h.elim, fun _ => rfl⟩
 ·exact ⟨fun h => h.elim, fun _ => rfl⟩
 ·exact ⟨fun h => h.elim, fun _ => rfl⟩
 ·exact ⟨fun h => h.elim, fun _ => rfl⟩
 ·exact ⟨fun h => if_pos h, fun h => if_neg h⟩
theorem textLen_le : ∀ (m : Nat) (u : List Int) {n : Nat}, u.length ≤ m → textLen u = some n → 1 ≤ n ∧ n ≤ u.length := by
 intro m
 induction m with
 | zero =>
  intro u n hm h
  obtain rfl : u = [] := List.length_eq_zero_iff.1 (by omega)
  simp [textLen] at h
 | succ m ih =>
  intro u n hm h
  match u, hm, h with
  | [], _, h => simp [textLen] at h
  | [c], _, h =>
   simp only [textLen] at h
   split at h
   ·simp at h; simp; omega
   ·simp at h
  | c :: d :: t, hm, h =>
   simp only [List.length_cons] at hm
   rw [textLen_cons] at h
   split at h
   ·simp at h; simp; omega
   split at h
   ·simp at h
   split at h
   ·split at h
    ·split at h
     ·split at h
      ·obtain ⟨k, h1, rfl⟩ := map_some h
       have h2 := ih _ (by simp only [List.length_cons] at hm; omega) h1
       simp only [List.length_cons]
       omega
      ·simp at h
     ·simp at h
    ·split at h
     ·obtain ⟨k, h1, rfl⟩ := map_some h
      have h2 := ih _ (by omega) h1
      simp only [List.length_cons]
      omega
     ·simp at h
   ·obtain ⟨k, h1, rfl⟩ := map_some h
    have h2 := ih _ (by simp only [List.length_cons]; omega) h1
    simp only [List.length_cons] at h2 ⊢
    omega
theorem take_len {t w : List Int} {n : Nat} (h : t.take n = w) (hw : w.length = n) : n ≤ t.length := by
 have := congrArg List.length h
 rw [List.length_take] at this
 omega
theorem wordTok_le {t : List Int} {k : Int} {n : Nat} (h : wordTok t = (k, some n)) : 1 ≤ n ∧ n ≤ t.length := by
 unfold wordTok at h
 split at h
 ·rename_i hc
  have := take_len hc.1 rfl
  simp only [Prod.mk.injEq, Option.some.injEq] at h
  omega
 split at h
 ·rename_i hc
  have := take_len hc.1 rfl
  simp only [Prod.mk.injEq, Option.some.injEq] at h
  omega
 split at h
 ·rename_i hc
  have := take_len hc.1 rfl
  simp only [Prod.mk.injEq, Option.some.injEq] at h
  omega
 ·simp at h
theorem tok_le {l : List Int} {k : Int} {n : Nat} (h : tok l = (k, some n)) : 1 ≤ n ∧ n ≤ l.length := by
 unfold tok at h
 split at h
 ·simp at h
 ·rename_i c t
  split at h
  ·simp only [Prod.mk.injEq, Option.some.injEq] at h
   simp only [List.length_cons]
   omega
  ·split at h
   ·simp only [Prod.mk.injEq] at h
    obtain ⟨m, h1, rfl⟩ := map_some h.2
    have h2 := textLen_le _ t (Nat.le_refl _) h1
    simp only [List.length_cons]
    omega
   ·split at h
    ·simp only [Prod.mk.injEq] at h
     exact numLen_le h.2
    ·exact wordTok_le h
theorem toks_all : ∀ (m : Nat) (l : List Int) (i : Int), l.length ≤ m → ∃ ts e, Toks l i ts e := by
 intro m
 induction m with
 | zero =>
  intro l i hm
  obtain rfl : l = [] := List.length_eq_zero_iff.1 (by omega)
  exact ⟨[], none, Toks.nil (fun _ h => by simp at h)⟩
 | succ m ih =>
  intro l i hm
  have hs : l = l.takeWhile blk ++ l.dropWhile blk := (List.takeWhile_append_dropWhile).symm
  have hb : ∀ x ∈ l.takeWhile blk, blk x = true := fun x hx => by
   have := List.all_takeWhile (p := blk) (l := l)
   exact (List.all_eq_true.1 this) x hx
  rcases hd : l.dropWhile blk with _ | ⟨c, t⟩
  ·rw [hd, List.append_nil] at hs
   rw [hs]
   exact ⟨[], none, Toks.nil hb⟩
  ·have hc : blk c = false := by
    have := List.head?_dropWhile_not blk l
    rw [hd] at this
    simpa using this
   rw [hd] at hs
   have hlen := congrArg List.length hs
   simp only [List.length_append, List.length_cons] at hlen
   rcases ht : tok (c :: t) with ⟨k, _ | n⟩
   ·refine ⟨[], some (i + ((l.takeWhile blk).length : Int)), ?_⟩
    have := Toks.bad (i := i) hb hc (by rw [ht])
    rw [← hs] at this
    exact this
   ·have hn := tok_le ht
    simp only [List.length_cons] at hn
    obtain ⟨ts, e, h⟩ := ih ((c :: t).drop n) (i + ((l.takeWhile blk).length : Int) + (n : Int)) (by rw [List.length_drop, List.length_cons]; omega)
    have := Toks.cons hb hc ht h
    rw [← hs] at this
    exact ⟨_, _, this⟩
def toksF : Nat → List Int → Int → Option (List (Int × Int × Int) × Option Int)
 | 0, _, _ => none
 | n + 1, l, i => match l.dropWhile blk with
  | [] => some ([], none)
  | c :: t => match tok (c :: t) with
   | (_, none) => some ([], some (i + ((l.takeWhile blk).length : Int)))
   | (k, some m) => match toksF n ((c :: t).drop m) (i + ((l.takeWhile blk).length : Int) + (m : Int)) with
    | none => none
    | some r => some ((k, i + ((l.takeWhile blk).length : Int), i + ((l.takeWhile blk).length : Int) + (m : Int)) :: r.1, r.2)
theorem toksF_ok : ∀ (n : Nat) (l : List Int) (i : Int) (ts : List (Int × Int × Int)) (e : Option Int), toksF n l i = some (ts, e) → Toks l i ts e := by
 intro n
 induction n with
 | zero => intro l i ts e h; simp [toksF] at h
 | succ n ih =>
  intro l i ts e h
  have hs : l = l.takeWhile blk ++ l.dropWhile blk := (List.takeWhile_append_dropWhile).symm
  have hb : ∀ x ∈ l.takeWhile blk, blk x = true := fun x hx => by
   have := List.all_takeWhile (p := blk) (l := l)
   exact (List.all_eq_true.1 this) x hx
  rw [toksF] at h
  rcases hd : l.dropWhile blk with _ | ⟨c, t⟩
  ·rw [hd] at h hs
   simp only [Option.some.injEq, Prod.mk.injEq] at h
   obtain ⟨rfl, rfl⟩ := h
   rw [List.append_nil] at hs
   rw [hs]
   exact Toks.nil hb
  ·have hc : blk c = false := by
    have := List.head?_dropWhile_not blk l
    rw [hd] at this
    simpa using this
   rw [hd] at h hs
   rcases ht : tok (c :: t) with ⟨k, _ | m⟩
   ·simp only [ht, Option.some.injEq, Prod.mk.injEq] at h
    obtain ⟨rfl, rfl⟩ := h
    have := Toks.bad (i := i) hb hc (by rw [ht])
    rw [← hs] at this
    exact this
   ·simp only [ht] at h
    rcases hr : toksF n ((c :: t).drop m) (i + ((l.takeWhile blk).length : Int) + (m : Int)) with _ | ⟨ts', e'⟩
    ·rw [hr] at h
     simp at h
    ·rw [hr] at h
     simp only [Option.some.injEq, Prod.mk.injEq] at h
     obtain ⟨rfl, rfl⟩ := h
     have := Toks.cons hb hc ht (ih _ _ _ _ hr)
     rw [← hs] at this
     exact this
theorem toks_bytes_unique {l : List Int} {i : Int} {ts ts' : List (Int × Int × Int)} {e e' : Option Int} (h : Toks l i ts e) : Toks l i ts' e' → ts = ts' ∧ e = e' := by
 have sp : ∀ {b b' : List Int} {c c' : Int} {t t' : List Int}, (∀ x ∈ b, blk x = true) → (∀ x ∈ b', blk x = true) → blk c = false → blk c' = false → b ++ c :: t = b' ++ c' :: t' → b = b' ∧ c = c' ∧ t = t' := by
  intro b
  induction b with
  | nil =>
   intro b' c c' t t' _ h2 h3 _ he
   cases b' with
   | nil => simpa using he
   | cons x y =>
    simp only [List.nil_append, List.cons_append, List.cons.injEq] at he
    have := h2 x (by simp)
    rw [← he.1, h3] at this
    exact absurd this (by decide)
  | cons x b ihb =>
   intro b' c c' t t' h1 h2 h3 h4 he
   cases b' with
   | nil =>
    simp only [List.nil_append, List.cons_append, List.cons.injEq] at he
    have := h1 x (by simp)
    rw [he.1, h4] at this
    exact absurd this (by decide)
   | cons x' b' =>
    simp only [List.cons_append, List.cons.injEq] at he
    obtain ⟨r1, r2, r3⟩ := ihb (fun z hz => h1 z (by simp [hz])) (fun z hz => h2 z (by simp [hz])) h3 h4 he.2
    exact ⟨by rw [he.1, r1], r2, r3⟩
 have no : ∀ {b b' : List Int} {c : Int} {t : List Int}, (∀ x ∈ b, blk x = true) → blk c = false → b = b' ++ c :: t → False := by
  intro b b' c t h1 h2 he
  have := h1 c (by rw [he]; simp)
  rw [h2] at this
  exact absurd this (by decide)
 induction h generalizing ts' e' with
 | @nil b i hb =>
  intro h'
  generalize hq : b = q at h'
  cases h' with
  | nil => exact ⟨rfl, rfl⟩
  | bad hb' hc' ht' => exact (no hb hc' hq).elim
  | cons hb' hc' ht' hr' => exact (no hb hc' hq).elim
 | @bad b c t i hb hc ht =>
  intro h'
  generalize hq : b ++ c :: t = q at h'
  cases h' with
  | nil hb' => exact (no hb' hc hq.symm).elim
  | bad hb' hc' ht' =>
   obtain ⟨rfl, rfl, rfl⟩ := sp hb hb' hc hc' hq
   exact ⟨rfl, rfl⟩
  | cons hb' hc' ht' hr' =>
   obtain ⟨rfl, rfl, rfl⟩ := sp hb hb' hc hc' hq
   rw [ht'] at ht
   exact absurd ht (by simp)
 | @cons b c t i k n ts e hb hc ht hrest ih =>
  intro h'
  generalize hq : b ++ c :: t = q at h'
  cases h' with
  | nil hb' => exact (no hb' hc hq.symm).elim
  | bad hb' hc' ht' =>
   obtain ⟨rfl, rfl, rfl⟩ := sp hb hb' hc hc' hq
   rw [ht] at ht'
   exact absurd ht' (by simp)
  | cons hb' hc' ht' hr' =>
   obtain ⟨rfl, rfl, rfl⟩ := sp hb hb' hc hc' hq
   rw [ht] at ht'
   simp only [Prod.mk.injEq, Option.some.injEq] at ht'
   obtain ⟨rfl, rfl⟩ := ht'
   obtain ⟨rfl, rfl⟩ := ih hr'
   exact ⟨rfl, rfl⟩
end Go.Proofs.Ytgbialeahdoelaa.Jlex

end

section
namespace Go.Proofs.Ytgbialeahdoelaa.Eng
open Go Go.Proofs.Ytgbialeahdoelaa.Base
set_option maxRecDepth 100000
set_option linter.unusedSimpArgs false
set_option linter.unusedVariables false
theorem fin_int {p : Int → Prop} (h : ∀ n : Fin 256, p n.val) {c : Int} (h0 : 0 ≤ c ∧ c < 256) : p c := by
 obtain ⟨k, rfl⟩ := Int.eq_ofNat_of_zero_le h0.1
 exact h ⟨k, by omega⟩
theorem in_go {c : Int} (h : 0 ≤ c ∧ c < 256) : goB c = Jlex.go c := fin_int (p := fun c => goB c = Jlex.go c) (by decide +kernel) h
theorem in_hex {c : Int} (h : 0 ≤ c ∧ c < 256) : hexB c = Jlex.hexb c := fin_int (p := fun c => hexB c = Jlex.hexb c) (by decide +kernel) h
theorem oneV_cons {p : Int → Bool} {l t : List Int} {a : Nat} {c : Int} (h : l.drop a = c :: t) : oneV p l a = p c := by
 have h1 : l[a]? = some c := by have := congrArg List.head? h; rwa [List.head?_drop] at this
 unfold oneV
 obtain ⟨h2, h3⟩ := List.getElem?_eq_some_iff.1 h1
 rw [decide_eq_true h2, Bool.true_and, List.getD_eq_getElem?_getD, h1]; rfl
theorem oneV_nil {p : Int → Bool} {l : List Int} {a : Nat} (h : l.drop a = []) : oneV p l a = false := by
 unfold oneV
 rw [decide_eq_false (by have := List.drop_eq_nil_iff.1 h; omega), Bool.false_and]
theorem drop_tail {l t : List Int} {a : Nat} {c : Int} (h : l.drop a = c :: t) : l.drop (a + 1) = t := by
 rw [← List.drop_drop, h]; rfl
theorem byte_at {l t : List Int} (hb : Bytes l) {a : Nat} {c : Int} (h : l.drop a = c :: t) : 0 ≤ c ∧ c < 256 :=
 hb c ((List.drop_sublist a l).subset (by rw [h]; exact List.mem_cons_self))
def ansN (a : Nat) : Option Nat → Int
 | none => -1
 | some n => ((a + n : Nat) : Int)
theorem ansN_map (a k : Nat) (o : Option Nat) : ansN a (o.map (· + k)) = ansN (a + k) o := by
 cases o with
 | none => rfl
 | some n => simp only [Option.map_some, ansN]; congr 1; omega
theorem runN_dl (l : List Int) (a : Nat) : runN digB l a = a + Jlex.dl (l.drop a) := rfl
theorem oneV_goes {l : List Int} (hb : Bytes l) (a : Nat) : oneV goB l a = Jlex.goes (l.drop a) := by
 rcases h : l.drop a with _ | ⟨c, t⟩
 ·rw [oneV_nil h]; rfl
 ·rw [oneV_cons h, in_go (byte_at hb h)]; rfl
end Go.Proofs.Ytgbialeahdoelaa.Eng

end

section
namespace Go.Proofs.Ytgbialeahdoelaa.Eng
open Go Go.Proofs.Ytgbialeahdoelaa.Base
set_option maxRecDepth 100000
set_option linter.unusedSimpArgs false
set_option linter.unusedVariables false
def hex4B : List Int → Bool
 | p :: q :: r :: s :: _ => hexB p && hexB q && hexB r && hexB s
 | _ => false
def escN : List Int → Option Nat
 | [] => none
 | d :: t => if Jstr.esc d then some 2 else if d = 117 ∧ hex4B t = true then some 6 else none
theorem escN_cons (d : Int) (t : List Int) : escN (d :: t) = if Jstr.esc d then some 2 else if d = 117 ∧ hex4B t = true then some 6 else none := rfl
theorem hex4B_iff {t : List Int} (hb : Bytes t) : hex4B t = true ↔ Jlex.hex4 t := by
 rcases t with _ | ⟨p, _ | ⟨q, _ | ⟨r, _ | ⟨s, t⟩⟩⟩⟩
 ·exact ⟨fun h => Bool.noConfusion h, fun h => h.elim⟩
 ·exact ⟨fun h => Bool.noConfusion h, fun h => h.elim⟩
 ·exact ⟨fun h => Bool.noConfusion h, fun h => h.elim⟩
 ·exact ⟨fun h => Bool.noConfusion h, fun h => h.elim⟩
 ·have h1 := hb p (by simp)
  have h2 := hb q (by simp)
  have h3 := hb r (by simp)
  have h4 := hb s (by simp)
  show (hexB p && hexB q && hexB r && hexB s) = true ↔ (0 ≤ Jstr.hexv p ∧ 0 ≤ Jstr.hexv q ∧ 0 ≤ Jstr.hexv r ∧ 0 ≤ Jstr.hexv s)
  rw [in_hex h1, in_hex h2, in_hex h3, in_hex h4]
  simp only [Jlex.hexb, Bool.and_eq_true, decide_eq_true_eq, and_assoc]
theorem textLen_step {c : Int} {t : List Int} (hb : Bytes t) : Jlex.textLen (c :: t) = if c = 34 then some 1 else if c < 32 then none else if c = 92 then (match escN t with
  | none => none
  | some m => (Jlex.textLen ((c :: t).drop m)).map (· + m)) else (Jlex.textLen t).map (· + 1) := by
 rcases t with _ | ⟨d, t⟩
 ·by_cases c1 : c = 34
  ·simp [Jlex.textLen, c1]
  ·by_cases c2 : c < 32
   ·simp [Jlex.textLen, c1, c2]
   ·by_cases c3 : c = 92
    ·simp [Jlex.textLen, c3, escN]
    ·simp [Jlex.textLen, c1, c2, c3]
 ·have hbt : Bytes t := fun x hx => hb x (List.mem_cons_of_mem _ hx)
  by_cases c1 : c = 34
  ·rw [Jlex.textLen_cons, if_pos c1, if_pos c1]
  by_cases c2 : c < 32
  ·rw [Jlex.textLen_cons, if_neg c1, if_neg c1, if_pos c2, if_pos c2]
  by_cases c3 : c = 92
  ·subst c3
   rw [if_neg c1, if_neg c2, if_pos rfl]
   rw [escN_cons]
   by_cases c4 : d = 117
   ·subst c4
    rw [if_neg (by decide)]
    by_cases c5 : hex4B t = true
    ·rw [if_pos ⟨rfl, c5⟩, (Jlex.textLen_u t).1 ((hex4B_iff hbt).1 c5)]
     rfl
    ·rw [if_neg (fun h => c5 h.2), (Jlex.textLen_u t).2 (fun h => c5 ((hex4B_iff hbt).2 h))]
   ·rw [Jlex.textLen_cons, if_neg c1, if_neg c2, if_pos rfl, if_neg c4]
    by_cases c5 : Jstr.esc d
    ·rw [if_pos c5, if_pos c5]
     rfl
    ·rw [if_neg c5, if_neg c5, if_neg (fun h => c4 h.1)]
  ·rw [Jlex.textLen_cons, if_neg c1, if_neg c1, if_neg c2, if_neg c2, if_neg c3, if_neg c3]
theorem escN_le {t : List Int} {m : Nat} (h : escN t = some m) : 2 ≤ m ∧ m ≤ t.length + 1 := by
 rcases t with _ | ⟨d, t⟩
 ·exact absurd h (by simp [escN])
 rw [escN_cons] at h
 split at h
 ·cases h; simp
 ·split at h
  ·rename_i h4
   cases h
   obtain ⟨-, h4⟩ := h4
   rcases t with _ | ⟨p, _ | ⟨q, _ | ⟨r, _ | ⟨s, t⟩⟩⟩⟩
   ·exact absurd h4 Bool.false_ne_true
   ·exact absurd h4 Bool.false_ne_true
   ·exact absurd h4 Bool.false_ne_true
   ·exact absurd h4 Bool.false_ne_true
   ·simp
  ·cases h
def F_txj : List AV → Option (Prop × AV)
 | [.d (.sl 1 xs), .d (.v (.int .i64 a))] => some (xs = (xs.map numOf).map (iD .u8) ∧ Bytes (xs.map numOf) ∧ xs.length ≤ 100000000 ∧ 0 ≤ a ∧ a < xs.length, vInt .i64 (ansN (a.toNat + 1) (Jlex.textLen ((xs.map numOf).drop (a.toNat + 1)))))
 | _ => none
end Go.Proofs.Ytgbialeahdoelaa.Eng

end

section
namespace Go.Proofs.Ytgbialeahdoelaa.Eng
open Go Go.Proofs.Ytgbialeahdoelaa.Base
set_option linter.unusedSimpArgs false
set_option linter.unusedVariables false
theorem str_sB (s : ByteArray) : strOfNums (sB s) = s := by
 apply ByteArray.ext
 apply Array.ext'
 simp [strOfNums, sB, Function.comp_def]
theorem sB_app (a b : ByteArray) : sB (a ++ b) = sB a ++ sB b := by simp [sB]
theorem bt_sB (s : ByteArray) (i : Int) : bt s i = (sB s).getD i.toNat 0 := by
 unfold bt sB
 simp only [List.getD_eq_getElem?_getD, List.getElem?_map]
 cases s.data.toList[i.toNat]? <;> rfl
theorem eq_sB (s t : ByteArray) : (s.toList == t.toList) = decide (sB s = sB t) := by
 rw [ByteArray.toList_eq, ByteArray.toList_eq, Bool.eq_iff_iff, beq_iff_eq, decide_eq_true_eq]
 constructor
 ·intro h; rw [sB, h]; rfl
 ·intro h
  have := congrArg strOfNums h
  rw [str_sB, str_sB] at this
  rw [this]
end Go.Proofs.Ytgbialeahdoelaa.Eng

end

section
namespace Go.Proofs.Ytgbialeahdoelaa.Jlex
open Go.RowKit Go.Proofs.YtgbialeahdoelaaW.PrintWords Go.Proofs.Ytgbialeahdoelaa.Base Go.Proofs.Ytgbialeahdoelaa.Utf Go.Proofs.Ytgbialeahdoelaa.Jstr
set_option linter.unusedSimpArgs false
set_option linter.unusedVariables false

theorem textLen_pre (r0 r : List Int) : ∀ (m : Nat) (u : List Int), u.length ≤ m → textLen (u ++ r0) = some u.length → textLen (u ++ r) = some u.length := by
 intro m
 induction m with
 | zero =>
  intro u hm h
  obtain rfl : u = [] := List.length_eq_zero_iff.1 (by omega)
  have := (textLen_le _ _ (Nat.le_refl _) h).1
  simp at this
 | succ m ih =>
  intro u hm h
  rcases u with _ | ⟨c, _ | ⟨d, t⟩⟩
  ·have := (textLen_le _ _ (Nat.le_refl _) h).1
   simp at this
  ·rw [List.cons_append, List.nil_append] at h ⊢
   by_cases c1 : c = 34
   ·cases r with
    | nil => simp only [textLen, if_pos c1]; rfl
    | cons x r => rw [textLen_cons, if_pos c1]; rfl
   ·exfalso
    cases r0 with
    | nil => simp [textLen, c1] at h
    | cons d t =>
     rw [textLen_cons, if_neg c1] at h
     simp only [List.length_cons, List.length_nil] at h
     split at h
     ·simp at h
     split at h
     ·split at h
      ·split at h
       ·split at h
        ·obtain ⟨k, h1, h2⟩ := map_some h; omega
        ·simp at h
       ·simp at h
      ·split at h
       ·obtain ⟨k, h1, h2⟩ := map_some h; omega
       ·simp at h
     ·obtain ⟨k, h1, h2⟩ := map_some h
      have := (textLen_le _ _ (Nat.le_refl _) h1).1
      omega
  ·simp only [List.length_cons] at hm
   rw [List.cons_append, List.cons_append, textLen_cons] at h ⊢
   simp only [List.length_cons] at h ⊢
   by_cases c1 : c = 34
   ·rw [if_pos c1] at h
    simp at h
   rw [if_neg c1] at h ⊢
   by_cases c2 : c < 32
   ·rw [if_pos c2] at h
    simp at h
   rw [if_neg c2] at h ⊢
   by_cases c3 : c = 92
   ·rw [if_pos c3] at h ⊢
    by_cases c4 : d = 117
    ·rw [if_pos c4] at h ⊢
     rcases t with _ | ⟨p, _ | ⟨q, _ | ⟨x, _ | ⟨y, t⟩⟩⟩⟩
     ·exfalso
      split at h
      ·split at h
       ·obtain ⟨k, h1, h2⟩ := map_some h; simp only [List.length_nil] at h2; omega
       ·simp at h
      ·simp at h
     ·exfalso
      split at h
      ·split at h
       ·obtain ⟨k, h1, h2⟩ := map_some h; simp only [List.length_cons, List.length_nil] at h2; omega
       ·simp at h
      ·simp at h
     ·exfalso
      split at h
      ·split at h
       ·obtain ⟨k, h1, h2⟩ := map_some h; simp only [List.length_cons, List.length_nil] at h2; omega
       ·simp at h
      ·simp at h
     ·exfalso
      split at h
      ·split at h
       ·obtain ⟨k, h1, h2⟩ := map_some h; simp only [List.length_cons, List.length_nil] at h2; omega
       ·simp at h
      ·simp at h
     ·simp only [List.cons_append] at h ⊢
      split at h
      ·rename_i h4
       rw [if_pos h4]
       obtain ⟨k, h1, h2⟩ := map_some h
       simp only [List.length_cons] at h2 hm ⊢
       rw [ih t (by omega) (by rw [h1]; congr 1; omega)]
       rfl
      ·simp at h
    ·rw [if_neg c4] at h ⊢
     by_cases c5 : esc d
     ·rw [if_pos c5] at h ⊢
      obtain ⟨k, h1, h2⟩ := map_some h
      rw [ih t (by omega) (by rw [h1]; congr 1; omega)]
      rfl
     ·rw [if_neg c5] at h
      simp at h
   ·rw [if_neg c3] at h ⊢
    obtain ⟨k, h1, h2⟩ := map_some h
    have := ih (d :: t) (by simp only [List.length_cons]; omega) (by rw [List.cons_append, h1, List.length_cons]; congr 1; omega)
    rw [List.cons_append] at this
    rw [this]
    rfl
theorem sign_range {c k : Int} (h : sign c = some k) : 1 ≤ k ∧ k ≤ 6 ∧ go c = false ∧ blk c = false := by
 unfold sign at h
 unfold go blk
 simp only [decide_eq_false_iff_not]
 (repeat' split at h) <;> simp only [Option.some.injEq, reduceCtorEq] at h <;> omega
theorem tok_kind {c : Int} {t : List Int} {k : Int} {n : Nat} (h : tok (c :: t) = (k, some n)) : 1 ≤ k ∧ k ≤ 11 ∧ (k < 7 → go c = false) ∧ (0 ≤ c ∧ c < 128) := by
 unfold tok at h
 rcases hs : sign c with _ | j
 ·simp only [hs] at h
  by_cases c1 : c = 34
  ·rw [if_pos c1] at h
   simp only [Prod.mk.injEq] at h
   omega
  rw [if_neg c1] at h
  by_cases c2 : c = 45 ∨ dig c = true
  ·rw [if_pos c2] at h
   simp only [Prod.mk.injEq] at h
   unfold dig at c2
   simp only [decide_eq_true_eq] at c2
   omega
  rw [if_neg c2] at h
  unfold wordTok at h
  split at h
  ·rename_i hc
   simp only [Prod.mk.injEq] at h
   have := hc.1
   simp only [List.take_succ_cons, List.cons.injEq] at this
   omega
  split at h
  ·rename_i hc
   simp only [Prod.mk.injEq] at h
   have := hc.1
   simp only [List.take_succ_cons, List.cons.injEq] at this
   omega
  split at h
  ·rename_i hc
   simp only [Prod.mk.injEq] at h
   have := hc.1
   simp only [List.take_succ_cons, List.cons.injEq] at this
   omega
  ·simp at h
 ·simp only [hs] at h
  have := sign_range hs
  simp only [Prod.mk.injEq] at h
  refine ⟨by omega, by omega, fun _ => this.2.2.1, ?_⟩
  unfold sign at hs
  (repeat' split at hs) <;> simp only [Option.some.injEq, reduceCtorEq] at hs <;> omega
def slice (b : List Int) (x : Int × Int × Int) : List Int := (b.drop x.2.1.toNat).take (x.2.2 - x.2.1).toNat
def isU (l : List Int) : Prop := ∃ rs, (∀ r ∈ rs, isCp r) ∧ l = encAll rs
theorem isU_append {a b : List Int} (ha : isU a) (hb : isU b) : isU (a ++ b) := by
 obtain ⟨x, h1, rfl⟩ := ha
 obtain ⟨y, h2, rfl⟩ := hb
 exact ⟨x ++ y, fun r hr => (List.mem_append.1 hr).elim (h1 r) (h2 r), (encAll_append x y).symm⟩
theorem isU_ascii : ∀ {l : List Int}, (∀ x ∈ l, 0 ≤ x ∧ x < 128) → isU l
 | [], _ => ⟨[], fun _ h => by simp at h, rfl⟩
 | c :: l, h => by
  have h1 := h c List.mem_cons_self
  obtain ⟨rs, h2, h3⟩ := isU_ascii (l := l) fun x hx => h x (List.mem_cons_of_mem _ hx)
  refine ⟨c :: rs, fun r hr => ?_, ?_⟩
  ·rcases List.mem_cons.1 hr with rfl | hr
   ·exact ⟨h1.1, by omega, by omega⟩
   ·exact h2 r hr
  ·rw [encAll_cons, ← h3]
   unfold enc
   rw [if_pos h1.2]; rfl
theorem toks_in {l : List Int} {i : Int} {ts : List (Int × Int × Int)} {e : Option Int} (h : Toks l i ts e) : ∀ x ∈ ts, i ≤ x.2.1 ∧ x.2.1 ≤ x.2.2 ∧ x.2.2 ≤ i + (l.length : Int) := by
 induction h with
 | nil => intro x hx; simp at hx
 | bad => intro x hx; simp at hx
 | @cons b c t i k n ts e hb hc ht hr ih =>
  intro x hx
  have hn := tok_le ht
  simp only [List.length_append, List.length_cons] at hn ⊢
  rcases List.mem_cons.1 hx with rfl | hx
  ·simp only
   omega
  ·have := ih x hx
   rw [List.length_drop, List.length_cons] at this
   omega
theorem toks_num {l : List Int} {i : Int} {ts : List (Int × Int × Int)} {e : Option Int} (h : Toks l i ts e) : ts.length ≤ l.length := by
 induction h with
 | nil => exact Nat.zero_le _
 | bad => exact Nat.zero_le _
 | @cons b c t i k n ts e hb hc ht hr ih =>
  have hn := tok_le ht
  simp only [List.length_append, List.length_cons, List.length_drop] at hn ih ⊢
  omega
end Go.Proofs.Ytgbialeahdoelaa.Jlex

end

section
namespace Go.Proofs.Ytgbialeahdoelaa.Eng
open Go Go.Proofs.Ytgbialeahdoelaa.Base
set_option maxRecDepth 100000
set_option linter.unusedSimpArgs false
set_option linter.unusedVariables false
theorem byteOf_num : ∀ l : List Int, (l.map (iD .u8)).map byteOf = l
 | [] => rfl
 | x :: l => by simp only [List.map_cons, byteOf_num l]; rfl
theorem word_cond {l : List Int} (hb : Bytes l) (a n : Nat) (wl : List Int) (hn : wl.length = n) (h0 : 1 ≤ n) (w : ByteArray) (hw : sB w = wl) :
  (((a + n : Nat) : Int) ≤ (l.length : Int) ∧ ((strOfNums (((l.map (iD .u8)).drop a).take (a + n - a) |>.map byteOf)).toList == w.toList) = true) ∧ (!oneV goB l (a + n)) = true ↔ (l.drop a).take n = wl ∧ Jlex.goes ((l.drop a).drop n) = false := by
 rw [eq_sB, hw, ← List.map_drop, ← List.map_take, byteOf_num, sB_str (fun x hx => hb x (List.mem_of_mem_drop (List.mem_of_mem_take hx))), oneV_goes hb, List.drop_drop, show a + n - a = n by omega]
 simp only [decide_eq_true_eq, Bool.not_eq_true']
 constructor
 ·exact fun h => ⟨h.1.2, h.2⟩
 ·refine fun h => ⟨⟨?_, h.1⟩, h.2⟩
  have := congrArg List.length h.1
  rw [List.length_take, List.length_drop] at this
  omega
def wordsR : List (List Dat) := [[.v (.string ⟨#[116, 114, 117, 101]⟩)], [.v (.string ⟨#[102, 97, 108, 115, 101]⟩)], [.v (.string ⟨#[110, 117, 108, 108]⟩)]]
end Go.Proofs.Ytgbialeahdoelaa.Eng

end

section
namespace Go.Proofs.Ytgbialeahdoelaa.Eng
open Go Go.Proofs.Ytgbialeahdoelaa.Base
set_option maxRecDepth 100000
set_option linter.unusedSimpArgs false
def finR (low n x : Int) : Int × Int × Bool := if x < low ∨ x > 1114111 ∨ (55296 ≤ x ∧ x < 57344) then Utf.bad else (x, n, true)
theorem lgI (a b : Int) : a < b ∨ b ≤ a := by omega
def runR (low n : Int) : Nat → Int → List Int → Int × Int × Bool
 | 0, x, _ => finR low n x
 | _ + 1, _, [] => Utf.bad
 | k + 1, x, d :: t => if Utf.cont d then runR low n k (x * 64 + (d - 128)) t else Utf.bad
theorem fin_R {low n x : Int} (h : (x < low ∨ x > 1114111 ∨ (55296 ≤ x ∧ x < 57344)) ↔ ¬ (Utf.isCp x ∧ Utf.size x = n)) : finR low n x = Utf.fin x n := by
 unfold finR Utf.fin
 by_cases hx : Utf.isCp x ∧ Utf.size x = n
 ·rw [if_neg (fun q => h.mp q hx), if_pos hx]
 ·rw [if_pos (h.mpr hx), if_neg hx]
theorem ref_dec {c : Int} {t : List Int} (hb : Bytes (c :: t)) : Utf.dec (c :: t) = if c < 128 then (c, 1, true) else if 192 ≤ c ∧ c < 224 then runR 128 2 1 (c - 192) t else if 224 ≤ c ∧ c < 240 then runR 2048 3 2 (c - 224) t else if 240 ≤ c ∧ c < 248 then runR 65536 4 3 (c - 240) t else Utf.bad := by
 have hc := hb.head
 simp only [Utf.dec]
 by_cases a1 : c < 128
 ·rw [if_pos a1, if_pos a1]
 rw [if_neg a1, if_neg a1]
 by_cases a2 : 192 ≤ c ∧ c < 224
 ·rw [if_pos a2]
  match t, hb with
  | [], _ =>
   simp only [runR]
   split
   ·rfl
   ·rw [if_neg (by omega), if_neg (by omega)]
  | d :: t, hb =>
   have hd := hb d (by simp)
   simp only [runR]
   by_cases k : Utf.cont d
   ·rw [if_pos k]
    have k' := k
    unfold Utf.cont at k'
    by_cases a3 : 194 ≤ c ∧ c < 224
    ·rw [if_pos a3, if_pos k, fin_R]
     unfold Utf.isCp Utf.size
     rw [if_neg (by omega), if_pos (by omega)]
     omega
    ·rw [if_neg a3, if_neg (by omega), if_neg (by omega), finR]
     simp only [if_pos k, Utf.isCp, Utf.size]
     rw [if_pos (show (c - 192) * 64 + (d - 128) < 128 ∨ (c - 192) * 64 + (d - 128) > 1114111 ∨ (55296 ≤ (c - 192) * 64 + (d - 128) ∧ (c - 192) * 64 + (d - 128) < 57344) by omega)]
   ·rw [if_neg k]
    split
    ·first | rfl | rw [if_neg k]
    ·rw [if_neg (by omega), if_neg (by omega)]
 rw [if_neg a2, if_neg (show ¬ (194 ≤ c ∧ c < 224) by omega)]
 by_cases a3 : 224 ≤ c ∧ c < 240
 ·rw [if_pos a3, if_pos a3]
  match t, hb with
  | [], _ => rfl
  | [d], hb =>
   simp only [runR]
   split <;> rfl
  | d :: e :: t, hb =>
   have hd := hb d (by simp)
   have he := hb e (by simp)
   simp only [runR]
   by_cases k1 : Utf.cont d
   ·by_cases k2 : Utf.cont e
    ·rw [if_pos ⟨k1, k2⟩, if_pos k1, if_pos k2]
     unfold Utf.cont at k1 k2
     rw [show ((c - 224) * 64 + (d - 128)) * 64 + (e - 128) = (c - 224) * 4096 + (d - 128) * 64 + (e - 128) by omega, fin_R]
     unfold Utf.isCp Utf.size
     constructor
     ·intro h q
      have q2 := q.2
      split at q2 <;> first | omega | (split at q2 <;> first | omega | (split at q2 <;> omega))
     ·intro h
      by_cases z : (c - 224) * 4096 + (d - 128) * 64 + (e - 128) < 2048
      ·exact .inl z
      ·refine .inr (.inr ?_)
       rcases lgI ((c - 224) * 4096 + (d - 128) * 64 + (e - 128)) 55296 with y | y
       ·exact absurd ⟨⟨by omega, by omega, by omega⟩, by rw [if_neg (by omega), if_neg (by omega), if_pos (by omega)]⟩ h
       ·rcases lgI ((c - 224) * 4096 + (d - 128) * 64 + (e - 128)) 57344 with y2 | y2
        ·exact ⟨y, y2⟩
        ·exact absurd ⟨⟨by omega, by omega, by omega⟩, by rw [if_neg (by omega), if_neg (by omega), if_pos (by omega)]⟩ h
    ·rw [if_neg (fun q => k2 q.2), if_pos k1, if_neg k2]
   ·rw [if_neg (fun q => k1 q.1), if_neg k1]
 rw [if_neg a3, if_neg a3]
 by_cases a4 : 240 ≤ c ∧ c < 248
 ·rw [if_pos a4]
  match t, hb with
  | [], _ => simp only [runR]; split <;> rfl
  | [d], hb => simp only [runR]; split <;> split <;> rfl
  | [d, e], hb => simp only [runR]; (repeat' split) <;> rfl
  | d :: e :: f :: t, hb =>
   have hd := hb d (by simp)
   have he := hb e (by simp)
   have hf := hb f (by simp)
   simp only [runR]
   by_cases k1 : Utf.cont d
   ·by_cases k2 : Utf.cont e
    ·by_cases k3 : Utf.cont f
     ·rw [if_pos k1, if_pos k2, if_pos k3]
      have k1' := k1
      have k2' := k2
      have k3' := k3
      unfold Utf.cont at k1' k2' k3'
      rw [show (((c - 240) * 64 + (d - 128)) * 64 + (e - 128)) * 64 + (f - 128) = (c - 240) * 262144 + (d - 128) * 4096 + (e - 128) * 64 + (f - 128) by omega]
      by_cases a5 : 240 ≤ c ∧ c < 245
      ·rw [if_pos a5, if_pos ⟨k1, k2, k3⟩, fin_R]
       unfold Utf.isCp Utf.size
       constructor
       ·intro h q
        have q2 := q.2
        split at q2 <;> first | omega | (split at q2 <;> first | omega | (split at q2 <;> omega))
       ·intro h
        rcases lgI ((c - 240) * 262144 + (d - 128) * 4096 + (e - 128) * 64 + (f - 128)) 65536 with y | y
        ·exact .inl y
        ·rcases lgI 1114111 ((c - 240) * 262144 + (d - 128) * 4096 + (e - 128) * 64 + (f - 128)) with y2 | y2
         ·exact .inr (.inl y2)
         ·exact absurd ⟨⟨by omega, by omega, by omega⟩, by rw [if_neg (by omega), if_neg (by omega), if_neg (by omega)]⟩ h
      ·rw [if_neg a5, finR, if_pos (by omega)]
     ·rw [if_pos k1, if_pos k2, if_neg k3]
      split
      ·rw [if_neg (fun q => k3 q.2.2)]
      ·rfl
    ·rw [if_pos k1, if_neg k2]
     split
     ·rw [if_neg (fun q => k2 q.2.1)]
     ·rfl
   ·rw [if_neg k1]
    split
    ·rw [if_neg (fun q => k1 q.1)]
    ·rfl
 ·rw [if_neg a4, if_neg (by omega)]
end Go.Proofs.Ytgbialeahdoelaa.Eng

end
