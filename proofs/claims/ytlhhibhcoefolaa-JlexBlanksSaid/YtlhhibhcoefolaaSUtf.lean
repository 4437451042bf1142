/- Reading and writing UTF-8, on the small machine. -/
import Derived.Test.YtlhhibhcoefolaaTi
import Derived.Test.YtlhhibhcoefolaaEngHeap
import Derived.Test.YtlhhibhcoefolaaUtf
import Derived.Laws.BitsLemmas
namespace Go.Proofs.Ytlhhibhcoefolaa.Eng
open Go Go.Proofs.Ytlhhibhcoefolaa.Base
set_option maxRecDepth 100000
set_option linter.unusedSimpArgs false
/-- Numbers as data. -/
def iD (k : IntKind) (n : Int) : List Dat := [.v (.int k n)]
def bytesD (l : List Int) : Dat := .sl 1 (l.map (iD .u8))
def intsD (l : List Int) : Dat := .sl 1 (l.map (iD .i64))
def numOf : List Dat → Int
  | [.v (.int _ n)] => n
  | _ => 0
theorem getD_iD (k : IntKind) (l : List Int) (i : Nat) (n0 : Int) : (l.map (iD k)).getD i [.v (.int k n0)] = iD k (l.getD i n0) := by
  rw [show ([.v (.int k n0)] : List Dat) = iD k n0 from rfl]
  simp only [List.getD_eq_getElem?_getD, List.getElem?_map]
  cases l[i]? <;> rfl
theorem num_iD (k : IntKind) (l : List Int) : (l.map (iD k)).map numOf = l := by
  induction l with
  | nil => rfl
  | cons a l ih => simp only [List.map_cons, ih]; rfl
def lead (c : Int) : Int × Int := if c < 128 then (1, c) else if 194 ≤ c ∧ c < 224 then (2, c - 192) else if 224 ≤ c ∧ c < 240 then (3, c - 224) else if 240 ≤ c ∧ c < 245 then (4, c - 240) else (0, 0)
def F_lead : List AV → Option (Prop × AV)
  | [.d (.v (.int .u8 c))] => some (0 ≤ c ∧ c < 256, .tup [vInt .i64 (lead c).1, vInt .i64 (lead c).2])
  | _ => none
theorem w64 {n : Int} (h0 : -9223372036854775808 ≤ n) (h1 : n ≤ 9223372036854775807) : IntKind.i64.wrap n = n := by rw [IntKind.wrap_i64]; omega
theorem lead_body {Γ : Gam} (c : Int) (h0 : 0 ≤ c) (h1 : c < 256) : Body Try.prog Γ (DRun Try.prog Γ) 29 [.d (.v (.int .u8 c))] (.tup [vInt .i64 (lead c).1, vInt .i64 (lead c).2]) := by
  refine Body.of Try.func29 Try.ntmps29 (by kernel_rfl) rfl rfl rfl ?_
  simp only [goTG_val, goTG_new, goTG_up, goTG_none, goG_none, goG_new, goG_up, ne_eq, evK, evH, retHF, DRun_mk, runT_nil, runT_none, runT_guard, goT_val, goT_new, goT_store, goTH_true, goTH_false, evO, keys, Option.toList_some, Option.toList_none, nzL_nil, nzL_cons, nz_k, nz_sl, nz_nil, nz_agg, startL, evC, evV, goE_val, goE_new, goE_store, goH_true, goH_false, goG_val, lk_cons, lk_nil, lk_func, lk_int, lk_bool, lk_string, lk_slice, lk_agg, look_mk, St.effOf, eff, effCall, effBinC, isConst, effBin, effUn, effConv, effPick, effNil, effFold, fold1, effLoad, effStore, effFieldAddr, effField, fieldOf, sliceOf, effIndexAddr, effIndex, effLen, effExtract, effSlice, dats, bnd, effBuild, placesOf, effBuildSlice, effMakeSlice, effAppend, srcOf, fillA, chunk, seg, toD, toDs, put, eqAV, fieldsEq, leafEq, strip, unw, allB, selP_or, selP_and, tis, TyD.agg, AV.cells, AV.cell, allCell, vInt, vBool, vStr, subL_nil, subL_cons, upIds, AV.ids, AV.ids.idsL, AObj.ids, drops, Hp.get_cons, get_nil, retF, resL, one, fz, fz.fzL, List.map_cons, List.map_nil, List.nil_append, List.append_nil, List.cons_append, List.all_cons, List.all_nil, List.length_cons, List.length_nil, List.getElem?_cons_zero, List.getElem?_cons_succ, List.getD_cons_zero, List.getD_cons_succ, List.take_succ_cons, List.take_zero, List.drop_succ_cons, List.drop_zero, List.take_nil, List.drop_nil, List.contains_cons, List.contains_nil, Option.getD_some, Option.getD_none, Option.map_some, Option.map_none, if_true, if_false, true_and, and_true, and_self, or_self, or_false, false_or, false_and, and_false, reduceCtorEq, sel_and, sel_or, decide_eq_true_eq, Bool.and_eq_true, Bool.or_eq_true, Bool.and_true, Bool.true_and, Bool.or_false, Bool.false_or, Bool.true_or, Bool.or_true, Bool.not_true, Bool.not_false, Bool.false_eq_true, implies_true, not_false_eq_true, Nat.reduceLT, Nat.reduceEqDiff, Nat.reduceAdd, Nat.reduceMul, Nat.reduceMod, Nat.reduceLeDiff, Nat.reduceBEq, Nat.zero_add, Nat.add_zero, reduceIte, ↓reduceIte, List.not_mem_nil]
  unfold lead
  have q1 := u8_and31 (x := c) h0 h1
  have q2 := u8_and15 (x := c) h0 h1
  have q3 := u8_and7 (x := c) h0 h1
  by_cases a1 : c < 128
  · rw [if_pos a1, if_pos a1, w64 (by omega) (by omega)]
  · rw [if_neg a1, if_neg a1]
    simp only [ge_iff_le]
    by_cases a2 : 194 ≤ c ∧ c < 224
    · rw [if_pos a2, if_pos a2, q1, w64 (by omega) (by omega), show c % 32 = c - 192 by omega]
    · rw [if_neg a2, if_neg a2]
      by_cases a3 : 224 ≤ c ∧ c < 240
      · rw [if_pos a3, if_pos a3, q2, w64 (by omega) (by omega), show c % 16 = c - 224 by omega]
      · rw [if_neg a3, if_neg a3]
        by_cases a4 : 240 ≤ c ∧ c < 245
        · rw [if_pos a4, if_pos a4, q3, w64 (by omega) (by omega), show c % 8 = c - 240 by omega]
        · rw [if_neg a4, if_neg a4]
def F_right : List AV → Option (Prop × AV)
  | [.d (.v (.int .i64 r))] => some (True, vBool (decide (Utf.isCp r)))
  | _ => none
theorem right_body {Γ : Gam} (r : Int) : Body Try.prog Γ (DRun Try.prog Γ) 30 [.d (.v (.int .i64 r))] (vBool (decide (Utf.isCp r))) := by
  refine Body.of Try.func30 Try.ntmps30 (by kernel_rfl) rfl rfl rfl ?_
  simp only [goTG_val, goTG_new, goTG_up, goTG_none, goG_none, goG_new, goG_up, ne_eq, evK, evH, retHF, DRun_mk, runT_nil, runT_none, runT_guard, goT_val, goT_new, goT_store, goTH_true, goTH_false, evO, keys, Option.toList_some, Option.toList_none, nzL_nil, nzL_cons, nz_k, nz_sl, nz_nil, nz_agg, startL, evC, evV, goE_val, goE_new, goE_store, goH_true, goH_false, goG_val, lk_cons, lk_nil, lk_func, lk_int, lk_bool, lk_string, lk_slice, lk_agg, look_mk, St.effOf, eff, effCall, effBinC, isConst, effBin, effUn, effConv, effPick, effNil, effFold, fold1, effLoad, effStore, effFieldAddr, effField, fieldOf, sliceOf, effIndexAddr, effIndex, effLen, effExtract, effSlice, dats, bnd, effBuild, placesOf, effBuildSlice, effMakeSlice, effAppend, srcOf, fillA, chunk, seg, toD, toDs, put, eqAV, fieldsEq, leafEq, strip, unw, allB, selP_or, selP_and, tis, TyD.agg, AV.cells, AV.cell, allCell, vInt, vBool, vStr, subL_nil, subL_cons, upIds, AV.ids, AV.ids.idsL, AObj.ids, drops, Hp.get_cons, get_nil, retF, resL, one, fz, fz.fzL, List.map_cons, List.map_nil, List.nil_append, List.append_nil, List.cons_append, List.all_cons, List.all_nil, List.length_cons, List.length_nil, List.getElem?_cons_zero, List.getElem?_cons_succ, List.getD_cons_zero, List.getD_cons_succ, List.take_succ_cons, List.take_zero, List.drop_succ_cons, List.drop_zero, List.take_nil, List.drop_nil, List.contains_cons, List.contains_nil, Option.getD_some, Option.getD_none, Option.map_some, Option.map_none, if_true, if_false, true_and, and_true, and_self, or_self, or_false, false_or, false_and, and_false, reduceCtorEq, sel_and, sel_or, decide_eq_true_eq, Bool.and_eq_true, Bool.or_eq_true, Bool.and_true, Bool.true_and, Bool.or_false, Bool.false_or, Bool.true_or, Bool.or_true, Bool.not_true, Bool.not_false, Bool.false_eq_true, implies_true, not_false_eq_true, Nat.reduceLT, Nat.reduceEqDiff, Nat.reduceAdd, Nat.reduceMul, Nat.reduceMod, Nat.reduceLeDiff, Nat.reduceBEq, Nat.zero_add, Nat.add_zero, reduceIte, ↓reduceIte, List.not_mem_nil]
  have e : (if r ≥ 0 ∧ r ≤ 1114111 then if r < 55296 then true else decide (r > 57343) else false) = decide (Utf.isCp r) := by
    by_cases h : Utf.isCp r
    · rw [decide_eq_true h]
      unfold Utf.isCp at h
      rw [if_pos (by omega)]
      split
      · rfl
      · exact decide_eq_true (by omega)
    · rw [decide_eq_false h]
      unfold Utf.isCp at h
      split
      · rw [if_neg (by omega)]
        exact decide_eq_false (by omega)
      · rfl
  rw [e]
def F_size : List AV → Option (Prop × AV)
  | [.d (.v (.int .i64 r))] => some (True, vInt .i64 (Utf.size r))
  | _ => none
theorem size_body {Γ : Gam} (r : Int) : Body Try.prog Γ (DRun Try.prog Γ) 31 [.d (.v (.int .i64 r))] (vInt .i64 (Utf.size r)) := by
  refine Body.of Try.func31 Try.ntmps31 (by kernel_rfl) rfl rfl rfl ?_
  simp only [goTG_val, goTG_new, goTG_up, goTG_none, goG_none, goG_new, goG_up, ne_eq, evK, evH, retHF, DRun_mk, runT_nil, runT_none, runT_guard, goT_val, goT_new, goT_store, goTH_true, goTH_false, evO, keys, Option.toList_some, Option.toList_none, nzL_nil, nzL_cons, nz_k, nz_sl, nz_nil, nz_agg, startL, evC, evV, goE_val, goE_new, goE_store, goH_true, goH_false, goG_val, lk_cons, lk_nil, lk_func, lk_int, lk_bool, lk_string, lk_slice, lk_agg, look_mk, St.effOf, eff, effCall, effBinC, isConst, effBin, effUn, effConv, effPick, effNil, effFold, fold1, effLoad, effStore, effFieldAddr, effField, fieldOf, sliceOf, effIndexAddr, effIndex, effLen, effExtract, effSlice, dats, bnd, effBuild, placesOf, effBuildSlice, effMakeSlice, effAppend, srcOf, fillA, chunk, seg, toD, toDs, put, eqAV, fieldsEq, leafEq, strip, unw, allB, selP_or, selP_and, tis, TyD.agg, AV.cells, AV.cell, allCell, vInt, vBool, vStr, subL_nil, subL_cons, upIds, AV.ids, AV.ids.idsL, AObj.ids, drops, Hp.get_cons, get_nil, retF, resL, one, fz, fz.fzL, List.map_cons, List.map_nil, List.nil_append, List.append_nil, List.cons_append, List.all_cons, List.all_nil, List.length_cons, List.length_nil, List.getElem?_cons_zero, List.getElem?_cons_succ, List.getD_cons_zero, List.getD_cons_succ, List.take_succ_cons, List.take_zero, List.drop_succ_cons, List.drop_zero, List.take_nil, List.drop_nil, List.contains_cons, List.contains_nil, Option.getD_some, Option.getD_none, Option.map_some, Option.map_none, if_true, if_false, true_and, and_true, and_self, or_self, or_false, false_or, false_and, and_false, reduceCtorEq, sel_and, sel_or, decide_eq_true_eq, Bool.and_eq_true, Bool.or_eq_true, Bool.and_true, Bool.true_and, Bool.or_false, Bool.false_or, Bool.true_or, Bool.or_true, Bool.not_true, Bool.not_false, Bool.false_eq_true, implies_true, not_false_eq_true, Nat.reduceLT, Nat.reduceEqDiff, Nat.reduceAdd, Nat.reduceMul, Nat.reduceMod, Nat.reduceLeDiff, Nat.reduceBEq, Nat.zero_add, Nat.add_zero, reduceIte, ↓reduceIte, List.not_mem_nil]
  unfold Utf.size
  (repeat' split) <;> first | rfl | (exfalso; omega)
theorem wraps_i64 (n : Int) (h0 : 0 ≤ n) (h1 : n < 2 ^ 31) : IntKind.i64.wrap n = n := by rw [IntKind.wrap_i64]; omega
theorem i64_and63 {x : Int} (h0 : 0 ≤ x) (h1 : x < 2147483648) : bits .and .i64 x 63 = x % 64 :=
  bits_mask .i64 31 (by decide) wraps_i64 6 (by decide) x h0 h1
theorem i64_or128 {y : Int} (h0 : 0 ≤ y) (h1 : y < 64) : bits .or .i64 128 y = 128 + y :=
  bits_join .i64 31 (by decide) wraps_i64 6 128 y (by decide) (by decide) (by decide) h0 h1 (by omega)
theorem i64_or192 {y : Int} (h0 : 0 ≤ y) (h1 : y < 32) : bits .or .i64 192 y = 192 + y :=
  bits_join .i64 31 (by decide) wraps_i64 6 192 y (by decide) (by decide) (by decide) h0 (by omega) (by omega)
theorem i64_or224 {y : Int} (h0 : 0 ≤ y) (h1 : y < 16) : bits .or .i64 224 y = 224 + y :=
  bits_join .i64 31 (by decide) wraps_i64 5 224 y (by decide) (by decide) (by decide) h0 (by omega) (by omega)
theorem i64_or240 {y : Int} (h0 : 0 ≤ y) (h1 : y < 16) : bits .or .i64 240 y = 240 + y :=
  bits_join .i64 31 (by decide) wraps_i64 4 240 y (by decide) (by decide) (by decide) h0 (by omega) (by omega)
theorem i64_or6 {x y : Int} (hx : 0 ≤ x) (hx1 : x < 33554432) (h0 : 0 ≤ y) (h1 : y < 64) : bits .or .i64 (x * 64) y = x * 64 + y :=
  bits_join .i64 31 (by decide) wraps_i64 6 (x * 64) y (by omega) (by omega) (by omega) h0 h1 (by omega)
theorem andNot_cont {c : Int} (h0 : 0 ≤ c) (h1 : c < 256) : bits .andNot .u8 c 63 = 128 ↔ Utf.cont c := by
  have key : ∀ n : Fin 256, (bits .andNot .u8 ((n.val : Nat) : Int) 63 = 128) ↔ Utf.cont ((n.val : Nat) : Int) := by decide +kernel
  obtain ⟨n, rfl⟩ := Int.eq_ofNat_of_zero_le h0
  exact key ⟨n, by omega⟩
theorem and_cont {c : Int} (h0 : 0 ≤ c) (h1 : c < 256) : bits .and .u8 c 192 = 128 ↔ Utf.cont c := by
  have key : ∀ n : Fin 256, (bits .and .u8 ((n.val : Nat) : Int) 192 = 128) ↔ Utf.cont ((n.val : Nat) : Int) := by decide +kernel
  obtain ⟨n, rfl⟩ := Int.eq_ofNat_of_zero_le h0
  exact key ⟨n, by omega⟩

section
open Utf
/-- The bytes that the code writes are those of the model. -/
theorem bytes2 {r : Int} (h : isCp r) (h1 : 128 ≤ r) (h2 : r < 2048) : [(bits .or .i64 192 (r / 64)) % 256, (bits .or .i64 128 (bits .and .i64 r 63)) % 256] = enc r := by
  unfold isCp at h
  rw [i64_and63 (by omega) (by omega), i64_or192 (by omega) (by omega), i64_or128 (by omega) (by omega)]
  unfold enc
  rw [if_neg (by omega), if_pos (by omega), Int.emod_eq_of_lt (by omega) (by omega), Int.emod_eq_of_lt (by omega) (by omega)]
theorem bytes3 {r : Int} (h : isCp r) (h1 : 2048 ≤ r) (h2 : r < 65536) : [(bits .or .i64 224 (r / 4096)) % 256, (bits .or .i64 128 (bits .and .i64 (r / 64) 63)) % 256, (bits .or .i64 128 (bits .and .i64 r 63)) % 256] = enc r := by
  unfold isCp at h
  rw [i64_and63 (x := r) (by omega) (by omega), i64_and63 (x := r / 64) (by omega) (by omega), i64_or224 (by omega) (by omega), i64_or128 (y := r / 64 % 64) (by omega) (by omega), i64_or128 (y := r % 64) (by omega) (by omega)]
  unfold enc
  rw [if_neg (by omega), if_neg (by omega), if_pos (by omega), Int.emod_eq_of_lt (a := 224 + r / 4096) (by omega) (by omega), Int.emod_eq_of_lt (a := 128 + r / 64 % 64) (by omega) (by omega), Int.emod_eq_of_lt (a := 128 + r % 64) (by omega) (by omega)]
theorem bytes4 {r : Int} (h : isCp r) (h1 : 65536 ≤ r) : [(bits .or .i64 240 (r / 262144)) % 256, (bits .or .i64 128 (bits .and .i64 (r / 4096) 63)) % 256, (bits .or .i64 128 (bits .and .i64 (r / 64) 63)) % 256, (bits .or .i64 128 (bits .and .i64 r 63)) % 256] = enc r := by
  unfold isCp at h
  rw [i64_and63 (x := r) (by omega) (by omega), i64_and63 (x := r / 64) (by omega) (by omega), i64_and63 (x := r / 4096) (by omega) (by omega), i64_or240 (by omega) (by omega), i64_or128 (y := r / 4096 % 64) (by omega) (by omega), i64_or128 (y := r / 64 % 64) (by omega) (by omega), i64_or128 (y := r % 64) (by omega) (by omega)]
  unfold enc
  rw [if_neg (by omega), if_neg (by omega), if_neg (by omega), Int.emod_eq_of_lt (a := 240 + r / 262144) (by omega) (by omega), Int.emod_eq_of_lt (a := 128 + r / 4096 % 64) (by omega) (by omega), Int.emod_eq_of_lt (a := 128 + r / 64 % 64) (by omega) (by omega), Int.emod_eq_of_lt (a := 128 + r % 64) (by omega) (by omega)]
theorem bytes1 {r : Int} (h : isCp r) (h1 : r < 128) : [r % 256] = enc r := by
  unfold isCp at h
  unfold enc
  rw [if_pos h1, Int.emod_eq_of_lt (by omega) (by omega)]
theorem enc_len {r : Int} : (enc r).length ≤ 4 := by
  have := @enc_size r
  have := size_range r
  omega

end
/-- What is made of a first byte's bits and the bytes behind. -/
def run (n : Int) : Int → List Int → Int × Int × Bool
  | x, [] => Utf.fin x n
  | x, d :: t => if Utf.cont d then run n (x * 64 + (d - 128)) t else Utf.bad
theorem dec_lead {c : Int} {t : List Int} (hb : Bytes (c :: t)) : Utf.dec (c :: t) = if (lead c).1 = 0 ∨ (lead c).1 > (t.length : Int) + 1 then Utf.bad else run (lead c).1 (lead c).2 (t.take ((lead c).1.toNat - 1)) := by
  have hc := hb.head
  simp only [Utf.dec]
  unfold lead
  by_cases a1 : c < 128
  · rw [if_pos a1, if_pos a1, if_neg (by simp only []; omega)]
    simp only [show ((1 : Int).toNat - 1) = 0 from rfl, List.take_zero, run, Utf.fin]
    rw [if_pos ⟨⟨by omega, by omega, by omega⟩, by unfold Utf.size; rw [if_pos a1]⟩]
  · rw [if_neg a1, if_neg a1]
    by_cases a2 : 194 ≤ c ∧ c < 224
    · rw [if_pos a2, if_pos a2]
      match t with
      | [] => simp [Utf.bad]
      | d :: t => simp [run]; intro h; omega
    · rw [if_neg a2, if_neg a2]
      by_cases a3 : 224 ≤ c ∧ c < 240
      · rw [if_pos a3, if_pos a3]
        match t with
        | [] => simp [Utf.bad]
        | [d] => simp [Utf.bad]
        | d :: e :: t =>
          simp only [List.length_cons, show ((3 : Int).toNat - 1) = 2 from rfl, List.take_succ_cons, List.take_zero, run]
          rw [if_neg (by omega : ¬ ((3 : Int) = 0 ∨ (3 : Int) > ((t.length + 1 + 1 : Nat) : Int) + 1))]
          by_cases d1 : Utf.cont d
          · by_cases d2 : Utf.cont e
            · rw [if_pos ⟨d1, d2⟩, if_pos d1, if_pos d2]; congr 1; omega
            · rw [if_neg (fun h => d2 h.2), if_pos d1, if_neg d2]
          · rw [if_neg (fun h => d1 h.1), if_neg d1]
      · rw [if_neg a3, if_neg a3]
        by_cases a4 : 240 ≤ c ∧ c < 245
        · rw [if_pos a4, if_pos a4]
          match t with
          | [] => simp [Utf.bad]
          | [d] => simp [Utf.bad]
          | [d, e] => simp [Utf.bad]
          | d :: e :: f :: t =>
            simp only [List.length_cons, show ((4 : Int).toNat - 1) = 3 from rfl, List.take_succ_cons, List.take_zero, run]
            rw [if_neg (by omega : ¬ ((4 : Int) = 0 ∨ (4 : Int) > ((t.length + 1 + 1 + 1 : Nat) : Int) + 1))]
            by_cases d1 : Utf.cont d
            · by_cases d2 : Utf.cont e
              · by_cases d3 : Utf.cont f
                · rw [if_pos ⟨d1, d2, d3⟩, if_pos d1, if_pos d2, if_pos d3]; congr 1; omega
                · rw [if_neg (fun h => d3 h.2.2), if_pos d1, if_pos d2, if_neg d3]
              · rw [if_neg (fun h => d2 h.2.1), if_pos d1, if_neg d2]
            · rw [if_neg (fun h => d1 h.1), if_neg d1]
        · rw [if_neg a4, if_neg a4]
          simp
theorem lead_range {c : Int} (h0 : 0 ≤ c) (h1 : c < 256) : 0 ≤ (lead c).1 ∧ (lead c).1 ≤ 4 ∧ 0 ≤ (lead c).2 ∧ (lead c).2 < 128 := by
  unfold lead
  (repeat' split) <;> simp only [] <;> omega
def F_Next : List AV → Option (Prop × AV)
  | [.d (.sl 1 xs), .d (.v (.int .i64 i))] => some (xs = (xs.map numOf).map (iD .u8) ∧ Bytes (xs.map numOf) ∧ xs.length ≤ 140737488355328,
      .tup [vInt .i64 (Utf.nx (xs.map numOf) i).1, vInt .i64 (Utf.nx (xs.map numOf) i).2.1, vBool (Utf.nx (xs.map numOf) i).2.2])
  | _ => none
def G_utf : Gam := ((Gam.none.add 29 F_lead).add 30 F_right).add 31 F_size
def S_Next (n : Int) (sg : List Int) (p : Int × Nat) : St := ⟨70, [], [(7, vInt .i64 n), (8, vInt .i64 p.1), (43, .d (.sl 1 (sg.map (iD .u8)))), (44, vInt .i64 sg.length), (45, vInt .i64 p.2)], []⟩
theorem Next_body (l : List Int) (hb : Bytes l) (hl : l.length ≤ 140737488355328) (i : Int) : Body Try.prog G_utf (DRun Try.prog G_utf) 20 [.d (bytesD l), .d (.v (.int .i64 i))] (.tup [vInt .i64 (Utf.nx l i).1, vInt .i64 (Utf.nx l i).2.1, vBool (Utf.nx l i).2.2]) := by
  refine Body.of Try.func20 Try.ntmps20 (by kernel_rfl) rfl rfl rfl ?_
  simp only [bytesD, G_utf, Gam.add, calmE, F_lead, F_right, F_size, AV.flat, AV.flat.flatL, getD_iD, iD, List.length_map, goTG_val, goTG_new, goTG_up, goTG_none, goG_none, goG_new, goG_up, ne_eq, evK, evH, retHF, DRun_mk, runT_nil, runT_none, runT_guard, goT_val, goT_new, goT_store, goTH_true, goTH_false, evO, keys, Option.toList_some, Option.toList_none, nzL_nil, nzL_cons, nz_k, nz_sl, nz_nil, nz_agg, startL, evC, evV, goE_val, goE_new, goE_store, goH_true, goH_false, goG_val, lk_cons, lk_nil, lk_func, lk_int, lk_bool, lk_string, lk_slice, lk_agg, look_mk, St.effOf, eff, effCall, effBinC, isConst, effBin, effUn, effConv, effPick, effNil, effFold, fold1, effLoad, effStore, effFieldAddr, effField, fieldOf, sliceOf, effIndexAddr, effIndex, effLen, effExtract, effSlice, dats, bnd, effBuild, placesOf, effBuildSlice, effMakeSlice, effAppend, srcOf, fillA, chunk, seg, toD, toDs, put, eqAV, fieldsEq, leafEq, strip, unw, allB, selP_or, selP_and, tis, TyD.agg, AV.cells, AV.cell, allCell, vInt, vBool, vStr, subL_nil, subL_cons, upIds, AV.ids, AV.ids.idsL, AObj.ids, drops, Hp.get_cons, get_nil, retF, resL, one, fz, fz.fzL, List.map_cons, List.map_nil, List.nil_append, List.append_nil, List.cons_append, List.all_cons, List.all_nil, List.length_cons, List.length_nil, List.getElem?_cons_zero, List.getElem?_cons_succ, List.getD_cons_zero, List.getD_cons_succ, List.take_succ_cons, List.take_zero, List.drop_succ_cons, List.drop_zero, List.take_nil, List.drop_nil, List.contains_cons, List.contains_nil, Option.getD_some, Option.getD_none, Option.map_some, Option.map_none, if_true, if_false, true_and, and_true, and_self, or_self, or_false, false_or, false_and, and_false, reduceCtorEq, sel_and, sel_or, decide_eq_true_eq, Bool.and_eq_true, Bool.or_eq_true, Bool.and_true, Bool.true_and, Bool.or_false, Bool.false_or, Bool.true_or, Bool.or_true, Bool.not_true, Bool.not_false, Bool.false_eq_true, implies_true, not_false_eq_true, Nat.reduceLT, Nat.reduceEqDiff, Nat.reduceAdd, Nat.reduceMul, Nat.reduceMod, Nat.reduceLeDiff, Nat.reduceBEq, Nat.zero_add, Nat.add_zero, reduceIte, ↓reduceIte, List.not_mem_nil]
  by_cases hi : i < 0 ∨ i ≥ (l.length : Int)
  · rw [if_pos hi, Utf.nx, if_pos (by omega)]
  · rw [if_neg hi]
    have hi' : ¬ (i < 0 ∨ (l.length : Int) ≤ i) := by omega
    obtain ⟨c, t, ht⟩ : ∃ c t, l.drop i.toNat = c :: t := by
      cases h : l.drop i.toNat with
      | nil => have := List.drop_eq_nil_iff.mp h; omega
      | cons c t => exact ⟨c, t, rfl⟩
    have hc : l.getD i.toNat 0 = c := by
      rw [List.getD_eq_getElem?_getD, ← Nat.add_zero i.toNat, ← List.getElem?_drop, ht]; rfl
    have hbt : Bytes (c :: t) := by rw [← ht]; exact fun x hx => hb x (List.mem_of_mem_drop hx)
    have hr := hbt.head
    have hlt : (t.length : Int) + 1 = l.length - i := by
      have h := congrArg List.length ht
      rw [List.length_drop, List.length_cons] at h
      omega
    have ht1 : l.drop (i.toNat + 1) = t := by rw [← List.drop_drop, ht]; rfl
    rw [hc]
    refine ⟨by omega, hr, ?_⟩
    have hn : Utf.nx l i = Utf.dec (c :: t) := by rw [Utf.nx, if_neg hi', ht]
    rw [hn, dec_lead hbt]
    obtain ⟨g0, g1, g2, g3⟩ := lead_range hr.1 hr.2
    generalize lead c = q at g0 g1 g2 g3 ⊢
    rw [w64 (n := (l.length : Int) - i) (by omega) (by omega)]
    by_cases hq : q.1 = 0 ∨ q.1 > (t.length : Int) + 1
    · rw [if_pos (by simpa [hlt] using hq), if_pos hq]
      rfl
    · rw [if_neg (by simpa [hlt] using hq), if_neg hq, w64 (n := i + 1) (by omega) (by omega), w64 (n := i + q.1) (by omega) (by omega)]
      refine ⟨by omega, ?_⟩
      have hs : List.take ((i + q.1).toNat - (i + 1).toNat) (List.drop (i + 1).toNat (l.map (iD .u8))) = (t.take (q.1.toNat - 1)).map (iD .u8) := by
        rw [← List.map_drop, ← List.map_take, show (i + 1).toNat = i.toNat + 1 by omega, ht1, show (i + q.1).toNat - (i.toNat + 1) = q.1.toNat - 1 by omega]

      rw [hs]
      have hsb : Bytes (t.take (q.1.toNat - 1)) := fun x hx => hbt x (List.mem_cons_of_mem _ (List.mem_of_mem_take hx))
      have hsl : (t.take (q.1.toNat - 1)).length ≤ 3 := by rw [List.length_take]; omega
      generalize t.take (q.1.toNat - 1) = sg at hsb hsl ⊢
      refine wpc_loop (S_Next q.1 sg) (fun p => p.2 ≤ sg.length ∧ 0 ≤ p.1 ∧ p.1 < 128 * 64 ^ p.2 ∧ run q.1 p.1 (sg.drop p.2) = run q.1 q.2 sg) (fun p => sg.length - p.2) (q.2, 0) ⟨Nat.zero_le _, g2, by simpa using g3, rfl⟩ ?_ ?_
      · simp only [S_Next]
        refine Le.of id [] ?_
        simp only [iD, List.length_map, Mt_tup, Mt_agg, Mt_fn, forall_eq, forall_eq_or_imp, ne_eq, List.all_cons, List.all_nil, pr, Nat.reduceLeDiff, slR_nil, slR_cons, hpR_nil, hpR_cells, hpR_row, idsR_nil, idsR_cons, mtE_v, mtE_sl, mtE_nil, mtE_refl, mtE_row, mtE_born, mtE_ptr, mtE_rp, mtE_agg, mtE_tup, mtE_fn, mtE_ep, MtL_nil, MtL_cons, Mt_v, Mt_sl, Mt_nil, Mt_refl, Mt_row, Mt_born, Mt_ptr, MtO_cells, MtO_row, liveIds, distinct, Dat.v.injEq, Dat.sl.injEq, Value.int.injEq, Value.bool.injEq, Value.string.injEq, lk_cons, lk_nil, subL_nil, subL_cons, upIds, AV.ids, AV.ids.idsL, AObj.ids, Hp.get_cons, get_nil, allCell, AV.cell, vInt, vBool, vStr, id, true_and, and_true, and_self, List.append_nil, List.nil_append, List.not_mem_nil, List.mem_cons, or_false, false_or, or_self, not_true_eq_false, not_false_eq_true, false_imp_iff, false_implies, List.map_nil, not_false_eq_true, List.contains_cons, List.contains_nil, Bool.or_false, Bool.false_or, Bool.true_or, Bool.or_true, Bool.and_true, Bool.true_and, implies_true, if_true, if_false, reduceCtorEq, Nat.reduceEqDiff, Nat.reduceBEq, Nat.reduceAdd, reduceIte, ↓reduceIte]
        rfl
      · rintro ⟨x, j⟩ ⟨h1, h2, h3, h4⟩
        simp only [S_Next, bytesD, G_utf, Gam.add, calmE, F_lead, F_right, F_size, AV.flat, AV.flat.flatL, getD_iD, iD, List.length_map, goTG_val, goTG_new, goTG_up, goTG_none, goG_none, goG_new, goG_up, ne_eq, evK, evH, retHF, DRun_mk, runT_nil, runT_none, runT_guard, goT_val, goT_new, goT_store, goTH_true, goTH_false, evO, keys, Option.toList_some, Option.toList_none, nzL_nil, nzL_cons, nz_k, nz_sl, nz_nil, nz_agg, startL, evC, evV, goE_val, goE_new, goE_store, goH_true, goH_false, goG_val, lk_cons, lk_nil, lk_func, lk_int, lk_bool, lk_string, lk_slice, lk_agg, look_mk, St.effOf, eff, effCall, effBinC, isConst, effBin, effUn, effConv, effPick, effNil, effFold, fold1, effLoad, effStore, effFieldAddr, effField, fieldOf, sliceOf, effIndexAddr, effIndex, effLen, effExtract, effSlice, dats, bnd, effBuild, placesOf, effBuildSlice, effMakeSlice, effAppend, srcOf, fillA, chunk, seg, toD, toDs, put, eqAV, fieldsEq, leafEq, strip, unw, allB, selP_or, selP_and, tis, TyD.agg, AV.cells, AV.cell, allCell, vInt, vBool, vStr, subL_nil, subL_cons, upIds, AV.ids, AV.ids.idsL, AObj.ids, drops, Hp.get_cons, get_nil, retF, resL, one, fz, fz.fzL, List.map_cons, List.map_nil, List.nil_append, List.append_nil, List.cons_append, List.all_cons, List.all_nil, List.length_cons, List.length_nil, List.getElem?_cons_zero, List.getElem?_cons_succ, List.getD_cons_zero, List.getD_cons_succ, List.take_succ_cons, List.take_zero, List.drop_succ_cons, List.drop_zero, List.take_nil, List.drop_nil, List.contains_cons, List.contains_nil, Option.getD_some, Option.getD_none, Option.map_some, Option.map_none, if_true, if_false, true_and, and_true, and_self, or_self, or_false, false_or, false_and, and_false, reduceCtorEq, sel_and, sel_or, decide_eq_true_eq, Bool.and_eq_true, Bool.or_eq_true, Bool.and_true, Bool.true_and, Bool.or_false, Bool.false_or, Bool.true_or, Bool.or_true, Bool.not_true, Bool.not_false, Bool.false_eq_true, implies_true, not_false_eq_true, Nat.reduceLT, Nat.reduceEqDiff, Nat.reduceAdd, Nat.reduceMul, Nat.reduceMod, Nat.reduceLeDiff, Nat.reduceBEq, Nat.zero_add, Nat.add_zero, reduceIte, ↓reduceIte, List.not_mem_nil]
        simp only [] at h1 h2 h3 h4
        by_cases hj : (j : Int) < sg.length
        · rw [if_pos hj]
          refine ⟨by omega, ?_⟩
          obtain ⟨d, hd⟩ : ∃ d, sg[j]? = some d := ⟨_, List.getElem?_eq_getElem (by omega)⟩
          have hdb := hsb d (List.mem_of_getElem? hd)
          have hdr : sg.drop j = d :: sg.drop (j + 1) := by
            obtain ⟨hlt', rfl⟩ := List.getElem?_eq_some_iff.mp hd
            exact List.drop_eq_getElem_cons hlt'
          have hg : sg.getD (j : Int).toNat 0 = d := by rw [Int.toNat_natCast, List.getD_eq_getElem?_getD, hd]; rfl
          rw [hg]
          rw [hdr, run] at h4
          by_cases hk : Utf.cont d
          · rw [if_neg (by simpa using (andNot_cont hdb.1 hdb.2).mpr hk)]
            refine ⟨by omega, ?_⟩
            rw [if_pos hk] at h4
            have hx : x < 33554432 := by
              have : (64 : Int) ^ j ≤ 64 ^ 2 := by
                have hj2 : j = 0 ∨ j = 1 ∨ j = 2 := by omega
                rcases hj2 with rfl | rfl | rfl <;> decide
              omega
            have hx2 : x * 64 + (d - 128) < 128 * 64 ^ (j + 1) := by
              unfold Utf.cont at hk
              rw [Int.pow_succ]; omega
            unfold Utf.cont at hk
            refine ⟨(x * 64 + (d - 128), j + 1), by simp only []; omega, ⟨by simp only []; omega, by simp only []; omega, hx2, h4⟩, ?_⟩
            refine Le.of id [] ?_
            simp only [iD, List.length_map, Mt_tup, Mt_agg, Mt_fn, forall_eq, forall_eq_or_imp, ne_eq, List.all_cons, List.all_nil, pr, Nat.reduceLeDiff, slR_nil, slR_cons, hpR_nil, hpR_cells, hpR_row, idsR_nil, idsR_cons, mtE_v, mtE_sl, mtE_nil, mtE_refl, mtE_row, mtE_born, mtE_ptr, mtE_rp, mtE_agg, mtE_tup, mtE_fn, mtE_ep, MtL_nil, MtL_cons, Mt_v, Mt_sl, Mt_nil, Mt_refl, Mt_row, Mt_born, Mt_ptr, MtO_cells, MtO_row, liveIds, distinct, Dat.v.injEq, Dat.sl.injEq, Value.int.injEq, Value.bool.injEq, Value.string.injEq, lk_cons, lk_nil, subL_nil, subL_cons, upIds, AV.ids, AV.ids.idsL, AObj.ids, Hp.get_cons, get_nil, allCell, AV.cell, vInt, vBool, vStr, id, true_and, and_true, and_self, List.append_nil, List.nil_append, List.not_mem_nil, List.mem_cons, or_false, false_or, or_self, not_true_eq_false, not_false_eq_true, false_imp_iff, false_implies, List.map_nil, not_false_eq_true, List.contains_cons, List.contains_nil, Bool.or_false, Bool.false_or, Bool.true_or, Bool.or_true, Bool.and_true, Bool.true_and, implies_true, if_true, if_false, reduceCtorEq, Nat.reduceEqDiff, Nat.reduceBEq, Nat.reduceAdd, reduceIte, ↓reduceIte]
            rw [show (2 : Int) ^ min (Int.toNat 6) IntKind.i64.bits = 64 from rfl, u8_and63 (x := d) hdb.1 hdb.2, w64 (n := x * 64) (by omega) (by omega), w64 (n := d % 64) (by omega) (by omega), i64_or6 h2 hx (by omega) (by omega), w64 (n := (j : Int) + 1) (by omega) (by omega)]
            exact ⟨by omega, by omega⟩
          · rw [if_pos (by simpa using fun h => hk ((andNot_cont hdb.1 hdb.2).mp h))]
            rw [if_neg hk] at h4
            rw [← h4]; rfl
        · rw [if_neg hj]
          rw [List.drop_eq_nil_of_le (by omega), run, Utf.fin] at h4
          by_cases hf : Utf.isCp x ∧ Utf.size x = q.1
          · rw [if_pos hf] at h4
            rw [if_neg (by simpa using hf), ← h4]
          · rw [if_neg hf] at h4
            rw [if_pos (by rcases Classical.not_and_iff_not_or_not.mp hf with h | h <;> simp [h]), ← h4]; rfl
theorem known_utf : Known Try.prog G_utf := by
  refine ((Known.none _).add mixed ?_).add mixed ?_ |>.add mixed ?_
  · intro args sc res h hs _
    unfold F_lead at h
    split at h <;> cases h
    exact ⟨rfl, lead_body _ hs.1 hs.2⟩
  · intro args sc res h hs _
    unfold F_right at h
    split at h <;> cases h
    exact ⟨rfl, right_body _⟩
  · intro args sc res h hs _
    unfold F_size at h
    split at h <;> cases h
    exact ⟨rfl, size_body _⟩
theorem Next_calm : ∀ args sc res, F_Next args = some (sc, res) → sc → Calm Try.prog 20 args res := by
  intro args sc res h hs
  unfold F_Next at h
  split at h <;> cases h
  rename_i xs i
  obtain ⟨h1, h2, h3⟩ := hs
  have hb := Next_body (xs.map numOf) h2 (by simpa using h3) i
  rw [bytesD, ← h1] at hb
  exact known_utf.calm mixed rfl rfl hb
theorem byteOf_all (l : List Int) : ∀ r : List Dat, r ∈ l.map (iD .u8) → r = [Dat.v (Value.int .u8 (byteOf r))] := by
  intro r h
  obtain ⟨c, -, rfl⟩ := List.mem_map.mp h
  rfl
theorem byteOf_map (l : List Int) : (l.map (iD .u8)).map byteOf = l := by
  induction l with
  | nil => rfl
  | cons a l ih => simp only [List.map_cons, ih]; rfl
def puts (rs : List Int) : List Int := rs.flatMap Utf.put
theorem puts_len (l : List Int) : (puts l).length ≤ 4 * l.length := by
  induction l with
  | nil => exact Nat.le_refl 0
  | cons a l ih =>
    have := (Utf.put_length a).2
    simp only [puts, List.flatMap_cons, List.length_append, List.length_cons] at ih ⊢
    omega
theorem puts_snoc {l : List Int} {j : Nat} {c : Int} (h : l[j]? = some c) : puts (l.take (j + 1)) = puts (l.take j) ++ Utf.put c := by
  rw [List.take_add_one, h]
  simp [puts]
theorem getD_at {l : List Int} {j : Nat} {c : Int} (h : l[j]? = some c) : l.getD (j : Int).toNat 0 = c := by rw [Int.toNat_natCast, List.getD_eq_getElem?_getD, h]; rfl
end Go.Proofs.Ytlhhibhcoefolaa.Eng
