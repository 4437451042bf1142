/- strings.Builder, on the small machine. -/
import Derived.Test.YtelgddealjbgiaaDoorSUtf
import Derived.Shelf.Strings.Builder1
namespace Go.Proofs.YtelgddealjbgiaaDoor.Eng
open Go Go.RowKit
set_option maxHeartbeats 2000000 in
set_option maxRecDepth 100000 in
theorem bstr_row (b g : Nat) (p : Value) (cap : Nat) (cur : Array Value) (l : List UInt8) (w : World) (h0 : l ≠ []) (hbk : w.heap[b]? = some (.cells #[p, .slice (some ⟨g, 0, none⟩) l.length cap] 53 (0, 0))) (hg : w.heap[g]? = some (.cells cur 5 (0, 0)))
    (hc : l.length ≤ cap) (hcm : cap ≤ maxLen) (hcs : cur.size = cap) (hcell : ∀ j x, l[j]? = some x → w.cell? ⟨g, j, none⟩ = some (.int .u8 x.toNat)) :
    Calls Tryd.prog 44 #[.pointer (some ⟨b, 0, none⟩)] w fun e w' => e = .returned (.string ⟨l.toArray⟩) ∧ w' = w.drew.freeze ⟨g, 0, none⟩ l.length := by
  have hl0 : l.length ≠ 0 := by simpa using h0
  have c1 : w.drew.cell? ⟨b, 1, none⟩ = some (.slice (some ⟨g, 0, none⟩) l.length cap) := by
    have : w.drew.heap[b]? = some (.cells #[p, .slice (some ⟨g, 0, none⟩) l.length cap] 53 (0, 0)) := hbk
    rw [Lib.cell_of_heap this]; rfl
  have hSD : (Builtin.unsafeSliceData_ #[34] 66 #[.slice (some ⟨g, 0, none⟩) l.length cap]).run Tryd.prog w.drew = .ok (.pointer (some ⟨g, 0, none⟩)) w.drew :=
    Lib.run_unsafeSliceData_row _ _ _ _ _ _ (by omega)
  have hUS : (Builtin.unsafeString_ #[66, 3] 9 #[.pointer (some ⟨g, 0, none⟩), .int .i64 l.length]).run Tryd.prog w.drew = .ok (.string ⟨l.toArray⟩) (w.drew.freeze ⟨g, 0, none⟩ l.length) := by
    refine Lib.run_unsafeString_row w.drew 66 3 9 5 Tryd.underlying66 (by kernel_rfl) g cur.size (by have hg' : w.drew.heap[g]? = some (.cells cur 5 (0, 0)) := hg; simp [World.shape?, hg']) l h0 (by omega) (by unfold maxLen at hcm; omega) ?_
    intro j x hx
    have := hcell j x hx
    rw [addr_eta _ rfl, Nat.zero_add]; exact this
  have hmixed := mixed
  go_enter Tryd.func44, Tryd.ntmps44
  go_wp2
  go_region_o
  all_goals (go_wp2; go_ret; exact ⟨rfl, rfl⟩)
set_option maxHeartbeats 2000000 in
set_option maxRecDepth 100000 in
theorem bstr_nil (b : Nat) (p : Value) (w : World) (hbk : w.heap[b]? = some (.cells #[p, .slice none 0 0] 53 (0, 0))) :
    Calls Tryd.prog 44 #[.pointer (some ⟨b, 0, none⟩)] w fun e w' => e = .returned (.string ⟨#[]⟩) ∧ w' = w.drew := by
  have hUS := fun W q => Lib.run_unsafeString_none (P := Tryd.prog) W 66 3 9 q
  have c1 : w.drew.cell? ⟨b, 1, none⟩ = some (.slice none 0 0) := by
    have : w.drew.heap[b]? = some (.cells #[p, .slice none 0 0] 53 (0, 0)) := hbk
    rw [Lib.cell_of_heap this]; rfl
  have hSD : (Builtin.unsafeSliceData_ #[34] 66 #[.slice none 0 0]).run Tryd.prog w.drew = .ok (.pointer none) w.drew := rfl
  have hmixed := mixed
  go_enter Tryd.func44, Tryd.ntmps44
  go_wp2
  go_region_o
  all_goals (go_wp2; go_ret; exact ⟨rfl, rfl⟩)
set_option maxHeartbeats 2000000 in
set_option maxRecDepth 100000 in
theorem bstr_zero (b g : Nat) (p : Value) (cur : Array Value) (w : World) (hbk : w.heap[b]? = some (.cells #[p, .slice (some ⟨g, 0, none⟩) 0 0] 53 (0, 0))) (hg : w.heap[g]? = some (.cells cur 5 (0, 0))) :
    Calls Tryd.prog 44 #[.pointer (some ⟨b, 0, none⟩)] w fun e w' => e = .returned (.string ⟨#[]⟩) ∧ (w' = w.drew.alloc (.view ⟨g, 0, none⟩ 5) ∨ w' = (w.alloc (.view ⟨g, 0, none⟩ 5)).drew) := by
  have hUS := fun W q => Lib.run_unsafeString_none (P := Tryd.prog) W 66 3 9 q
  have hlt : b < w.heap.size := by
    rcases Nat.lt_or_ge b w.heap.size with h' | h'
    · exact h'
    · simp [Array.getElem?_eq_none h'] at hbk
  have c1 : w.drew.cell? ⟨b, 1, none⟩ = some (.slice (some ⟨g, 0, none⟩) 0 0) := by
    have : w.drew.heap[b]? = some (.cells #[p, .slice (some ⟨g, 0, none⟩) 0 0] 53 (0, 0)) := hbk
    rw [Lib.cell_of_heap this]; rfl
  have hSD : (Builtin.unsafeSliceData_ #[34] 66 #[.slice (some ⟨g, 0, none⟩) 0 0]).run Tryd.prog w.drew = .ok (.pointer (some ⟨w.drew.heap.size, 0, none⟩)) (w.drew.alloc (.view ⟨g, 0, none⟩ 5)) :=
    Lib.run_unsafeSliceData_zero w.drew _ _ 5 Tryd.underlying66 ⟨g, 0, none⟩ 0 (5, cur.size) (by have hg' : w.drew.heap[g]? = some (.cells cur 5 (0, 0)) := hg; simp [World.shape?, hg'])
  have c2 : (w.drew.alloc (.view ⟨g, 0, none⟩ 5)).cell? ⟨b, 1, none⟩ = some (.slice (some ⟨g, 0, none⟩) 0 0) := by
    have : (w.drew.alloc (.view ⟨g, 0, none⟩ 5)).heap[b]? = _ := (Lib.alloc_old w.drew _ b hlt).trans hbk
    rw [Lib.cell_of_heap this]; rfl
  have c3 : (w.alloc (.view ⟨g, 0, none⟩ 5)).drew.cell? ⟨b, 1, none⟩ = some (.slice (some ⟨g, 0, none⟩) 0 0) := c2
  have c0 : w.cell? ⟨b, 1, none⟩ = some (.slice (some ⟨g, 0, none⟩) 0 0) := c1
  have hmixed := mixed
  go_enter Tryd.func44, Tryd.ntmps44
  go_wp2
  go_region_o
  all_goals (go_wp2; go_ret; first | exact ⟨rfl, .inl rfl⟩ | exact ⟨rfl, .inr rfl⟩)
set_option maxHeartbeats 2000000 in
set_option maxRecDepth 100000 in
theorem bstr_room (b g cap : Nat) (p : Value) (w : World) (hc0 : cap ≠ 0) (hbk : w.heap[b]? = some (.cells #[p, .slice (some ⟨g, 0, none⟩) 0 cap] 53 (0, 0))) :
    Calls Tryd.prog 44 #[.pointer (some ⟨b, 0, none⟩)] w fun e w' => e = .returned (.string ⟨#[]⟩) ∧ w' = w.drew := by
  have hUS := fun W q => Lib.run_unsafeString_none (P := Tryd.prog) W 66 3 9 q
  have c1 : w.drew.cell? ⟨b, 1, none⟩ = some (.slice (some ⟨g, 0, none⟩) 0 cap) := by
    have : w.drew.heap[b]? = some (.cells #[p, .slice (some ⟨g, 0, none⟩) 0 cap] 53 (0, 0)) := hbk
    rw [Lib.cell_of_heap this]; rfl
  have hSD : (Builtin.unsafeSliceData_ #[34] 66 #[.slice (some ⟨g, 0, none⟩) 0 cap]).run Tryd.prog w.drew = .ok (.pointer (some ⟨g, 0, none⟩)) w.drew :=
    Lib.run_unsafeSliceData_row _ _ _ _ _ _ hc0
  clear hc0
  have hmixed := mixed
  go_enter Tryd.func44, Tryd.ntmps44
  go_wp2
  go_region_o
  all_goals (go_wp2; go_ret; exact ⟨rfl, rfl⟩)
set_option maxHeartbeats 2000000 in
set_option maxRecDepth 100000 in
theorem bcheck_used (b : Nat) (w : World) (h0 : w.cell? ⟨b, 0, none⟩ = some (.pointer (some ⟨b, 0, none⟩))) :
    Calls Tryd.prog 59 #[.pointer (some ⟨b, 0, none⟩)] w fun e w' => e = .returned (.tuple #[]) ∧ w' = w := by
  have hj : (Tryd.prog.info? 53).map (·.size) = some 2 := by kernel_rfl
  obtain ⟨j, hj, _⟩ := Option.map_eq_some_iff.1 hj
  have hmixed := mixed
  go_enter Tryd.func59, Tryd.ntmps59
  go_wp2
  rw [Lib.run_neq_ptr_same w _ Tryd.underlying51 hj]
  go_wp2
  go_end0
  exact ⟨rfl, rfl⟩
set_option maxHeartbeats 2000000 in
set_option maxRecDepth 100000 in
theorem bcheck_fresh (b : Nat) (w : World) (h0 : w.cell? ⟨b, 0, none⟩ = some (.pointer none)) (hsh : w.shape? b = some (53, 2)) (hfz : w.frozen? ⟨b, 0, none⟩ = false) :
    Calls Tryd.prog 59 #[.pointer (some ⟨b, 0, none⟩)] w fun e w' => e = .returned (.tuple #[]) ∧ w' = w.setCell ⟨b, 0, none⟩ (.pointer (some ⟨b, 0, none⟩)) := by
  have hj : (Tryd.prog.info? 53).map (·.size) = some 2 := by kernel_rfl
  obtain ⟨j, hj, hjs⟩ := Option.map_eq_some_iff.1 hj
  have hmixed := mixed
  go_enter Tryd.func59, Tryd.ntmps59
  go_wp2
  rw [Lib.run_to_unsafe w ⟨b, 0, none⟩ Tryd.underlying51 Tryd.underlying72 hj (by rw [hjs]; decide) hsh (Nat.zero_lt_succ 1)]
  simp only [Result.andThen]
  rw [Oper.upon_value]
  go_wp2
  rw [run_callFunc_extern Tryd.func67 (by kernel_rfl) (by kernel_rfl) (by kernel_rfl) (e := Extern.AbiNoEscape.same) (by kernel_rfl)]
  rw [Lib.run_noEscape]
  simp only [Result.andThen]
  rw [Oper.upon_value]
  go_wp2
  rw [Lib.run_from_unsafe w ⟨b, 0, none⟩ Tryd.underlying72 Tryd.underlying51 hj hsh (by kernel_rfl)]
  simp only [Result.andThen]
  rw [Oper.upon_value]
  go_wp2
  go_end0
  exact ⟨rfl, rfl⟩
/-- copyCheck: a builder that is used for the first time keeps its own place. -/
def F_cc (h : Nat → Option AObj) (_ : Nat) : List AV → Option Eff
  | [.ptr o 0] => match h o with
    | some (.cells t [.d (.v (.pointer none)), c]) => if t = 53 then some { sc := True, val := .tup [], up := [(o, some (.cells t [.ptr o 0, c]))] } else none
    | some (.cells _ [.ptr o' 0, _]) => if o' = o then some { sc := True, val := .tup [] } else none
    | _ => none
  | _ => none
theorem setCell_same (w : World) (a : Addr) (v : Value) : (w.setCell a v).os = w.os ∧ (w.setCell a v).tape = w.tape ∧ (w.setCell a v).output = w.output ∧ (w.setCell a v).heap.size = w.heap.size ∧ ∀ k, k ≠ a.block → (w.setCell a v).heap[k]? = w.heap[k]? := by
  unfold World.setCell
  refine ⟨rfl, rfl, rfl, by simp, fun k hk => ?_⟩
  simp only [Array.getElem?_modify]
  rw [if_neg (fun e => hk e.symm)]
theorem setCell_at {w : World} {b : Nat} {us : Array Value} {t : Nat} (h : w.heap[b]? = some (.cells us t (0, 0))) (v : Value) : (w.setCell ⟨b, 0, none⟩ v).heap[b]? = some (.cells (us.setIfInBounds 0 v) t (0, 0)) := by
  unfold World.setCell
  simp only [Array.getElem?_modify, h]
  simp
theorem cc_ok {Γ : Gam} (hG : Gok Tryd.prog Γ) : Gok Tryd.prog (Γ.addH 59 F_cc) := by
  intro g h d args e he hsc C m w hp vals hh I hsz hv hf
  unfold Gam.addH at he
  split at he
  case isFalse => exact hG g h d args e he hsc C m w hp vals hh I hsz hv hf
  rename_i hg
  subst hg hh
  refine ⟨⟨_, Tryd.func59, by kernel_rfl, by kernel_rfl⟩, ?_⟩
  unfold F_cc at he
  split at he
  case h_2 => cases he
  rename_i o
  obtain ⟨u, rfl⟩ : ∃ u, vals = #[u] := by
    have h1 : vals.size = 1 := hsz
    obtain ⟨l⟩ := vals
    match l, h1 with
    | [u], _ => exact ⟨u, rfl⟩
  have hu := hv 0 u _ rfl rfl
  cases hu with
  | @ptr _ _ b hm =>
  split at he
  · rename_i t c ho
    split at he
    case isFalse => cases he
    rename_i ht
    subst ht
    cases he
    obtain ⟨b', us, h1, h2, h3, h4, h5⟩ := I.live o _ ho
    rw [hm] at h1
    cases h1
    obtain ⟨us⟩ := us
    match us, h3 with
    | [u0, u1], _ =>
    have q0 := h4 0 u0 _ rfl rfl
    cases q0 with
    | d q0 =>
    cases q0
    refine (bcheck_fresh b w (by simp [World.cell?, h2]) (by simp [World.shape?, h2]) (by simp [World.frozen?, h2])).mono ?_
    rintro en w' ⟨rfl, rfl⟩
    refine ⟨_, rfl, m, fun _ _ => rfl, ?_⟩
    obtain ⟨f1, f2, f3, f4, f5⟩ := setCell_same w ⟨b, 0, none⟩ (.pointer (some ⟨b, 0, none⟩))
    have hbm : blk (m o) = some b := by rw [hm]; rfl
    obtain ⟨I', k⟩ := I.put (m' := m) (w' := w.setCell ⟨b, 0, none⟩ (.pointer (some ⟨b, 0, none⟩))) (hp1 := hp) (fun _ _ h => h) o (.cells 53 [.ptr o 0, c]) (fun _ _ => rfl) (.inl rfl) f1 f2 f3 (Nat.le_of_eq f4.symm)
      (fun k _ hk => f5 k fun e => hk (by rw [hbm, show k = b from e]))
      (fun b' hb' => by
        rw [hbm] at hb'
        cases hb'
        exact ⟨I.own o _ b ho hbm, I.not_im ho hbm, fun o' x' ho' hne e => I.sep o o' _ x' b ho ho' (fun q => hne q.symm) hbm e⟩)
      (fun im' hk => ⟨b, (⟨[.pointer none, u1]⟩ : Array Value).setIfInBounds 0 (.pointer (some ⟨b, 0, none⟩)), hm, setCell_at h2 _, by simp, fun i u' c' q1 q2 => by
        match i, q1, q2 with
        | 0, q1, q2 => cases q1; cases q2; exact .ptr hm
        | 1, q1, q2 => cases q1; cases q2; exact (h4 1 _ _ rfl rfl).mono hk (fun _ _ => rfl)
        | i + 2, q1, q2 => simp at q2, fun c' hc' => by
          rcases List.mem_cons.1 hc' with rfl | hc'
          · rfl
          · exact h5 c' (List.mem_cons_of_mem _ hc')⟩)
    exact ⟨I', .tup rfl (fun i u c h1 h2 => by simp at h2), k⟩
  · rename_i t o' c ho
    split at he
    case isFalse => cases he
    rename_i ht
    subst ht
    cases he
    obtain ⟨b', us, h1, h2, h3, h4, h5⟩ := I.live o' _ ho
    rw [hm] at h1
    cases h1
    obtain ⟨us⟩ := us
    match us, h3 with
    | [u0, u1], _ =>
    have q0 := h4 0 u0 _ rfl rfl
    cases q0 with
    | ptr q0 =>
    rw [hm] at q0
    cases q0
    refine (bcheck_used b w (by simp [World.cell?, h2])).mono ?_
    rintro en w' ⟨rfl, rfl⟩
    exact ⟨_, rfl, m, fun _ _ => rfl, I, .tup rfl (fun i u c h1 h2 => by simp at h2), fun b h => ⟨h, rfl⟩⟩
  · cases he
set_option maxRecDepth 100000
set_option linter.unusedSimpArgs false
noncomputable def G_cc : Gam := Gam.none.addH 59 F_cc
theorem G_cc_at (h : Nat → Option AObj) (d : Nat) (a : List AV) : G_cc 59 h d a = F_cc h d a := rfl
theorem known_cc : Known Tryd.prog G_cc := ⟨cc_ok (Known.none _).ok, (Known.none Tryd.prog).loc.addH _ fun d args h h' ha => by
  unfold F_cc
  split
  · rw [ha _ (by simp [AV.ids.idsL, AV.ids])]
  · rfl⟩
/-- A builder that holds so many bytes. -/
def bldH (a : AV) (xs : List (List Dat)) : Hp := [(10000, some (.cells 53 [a, .row 10001 xs.length])), (10001, some (.row 5 1 xs))]
def bldO (xs : List (List Dat)) : List (Nat × AObj) := [(10000, .cells 53 [.ptr 10000 0, .row 9000 xs.length]), (9000, .row 5 1 xs)]
theorem ws_body (a : AV) (ha : a = .d (.v (.pointer none)) ∨ a = .ptr 10000 0) (xs : List (List Dat)) (s : ByteArray) (hl : xs.length + s.size ≤ 140737488355328) :
    HBody Tryd.prog G_cc (DRun Tryd.prog G_cc) 42 [.ptr 10000 0, .d (.v (.string s))] (bldH a xs) (.tup [vInt .i64 s.size, .d (.v .nilIface)]) ((bldO (xs ++ s.data.toList.map byteRow)).map fun p => (p.1, some p.2)) := by
  rcases ha with rfl | rfl
  all_goals
    refine HBody.of Tryd.func42 Tryd.ntmps42 (by kernel_rfl) rfl rfl rfl rfl ?_
    simp only [bldH, bldO, G_cc_at, F_cc, goTG_val, goTG_new, goTG_up, goTG_none, goG_none, goG_new, goG_up, ne_eq, evK, evH, retHF, DRun_mk, runT_nil, runT_none, runT_guard, goT_val, goT_new, goT_store, goTH_true, goTH_false, evO, keys, Option.toList_some, Option.toList_none, nzL_nil, nzL_cons, nz_k, nz_sl, nz_nil, nz_agg, startL, evC, evV, goE_val, goE_new, goE_store, goH_true, goH_false, goG_val, lk_cons, lk_nil, lk_func, lk_int, lk_bool, lk_string, lk_slice, lk_agg, look_mk, St.effOf, eff, effCall, effBinC, isConst, effBin, effUn, effConv, effPick, effNil, effFold, fold1, effLoad, effStore, effFieldAddr, effField, fieldOf, sliceOf, effIndexAddr, effIndex, effLen, effExtract, effSlice, dats, bnd, effBuild, placesOf, effBuildSlice, effMakeSlice, effAppend, srcOf, fillA, chunk, seg, toD, toDs, put, eqAV, fieldsEq, leafEq, strip, unw, allB, selP_or, selP_and, tis, TyD.agg, AV.cells, AV.cell, allCell, vInt, vBool, vStr, subL_nil, subL_cons, upIds, AV.ids, AV.ids.idsL, AObj.ids, drops, Hp.get_cons, get_nil, retF, resL, one, fz, fz.fzL, List.map_cons, List.map_nil, List.nil_append, List.append_nil, List.cons_append, List.all_cons, List.all_nil, List.length_cons, List.length_nil, List.getElem?_cons_zero, List.getElem?_cons_succ, List.getD_cons_zero, List.getD_cons_succ, List.take_succ_cons, List.take_zero, List.drop_succ_cons, List.drop_zero, List.take_nil, List.drop_nil, List.contains_cons, List.contains_nil, Option.getD_some, Option.getD_none, Option.map_some, Option.map_none, if_true, if_false, true_and, and_true, and_self, or_self, or_false, false_or, false_and, and_false, reduceCtorEq, sel_and, sel_or, decide_eq_true_eq, Bool.and_eq_true, Bool.or_eq_true, Bool.and_true, Bool.true_and, Bool.or_false, Bool.false_or, Bool.true_or, Bool.or_true, Bool.not_true, Bool.not_false, Bool.false_eq_true, implies_true, not_false_eq_true, Nat.reduceLT, Nat.reduceEqDiff, Nat.reduceAdd, Nat.reduceMul, Nat.reduceMod, Nat.reduceLeDiff, Nat.reduceBEq, Nat.zero_add, Nat.add_zero, reduceIte, ↓reduceIte, List.not_mem_nil]
    refine ⟨by rw [List.length_map, Array.length_toList]; show (xs.length + s.size) * 1 ≤ _; omega, fun o => if o = 9000 then 14 else o, ?_⟩
    simp only [Mt_tup, Mt_agg, Mt_fn, forall_eq, forall_eq_or_imp, ne_eq, List.all_cons, List.all_nil, pr, Nat.reduceLeDiff, slR_nil, slR_cons, hpR_nil, hpR_cells, hpR_row, idsR_nil, idsR_cons, mtE_v, mtE_sl, mtE_nil, mtE_refl, mtE_row, mtE_born, mtE_ptr, mtE_rp, mtE_agg, mtE_tup, mtE_fn, mtE_ep, MtL_nil, MtL_cons, Mt_v, Mt_sl, Mt_nil, Mt_refl, Mt_row, Mt_born, Mt_ptr, MtO_cells, MtO_row, liveIds, distinct, Dat.v.injEq, Dat.sl.injEq, Value.int.injEq, Value.bool.injEq, Value.string.injEq, lk_cons, lk_nil, subL_nil, subL_cons, upIds, AV.ids, AV.ids.idsL, AObj.ids, Hp.get_cons, get_nil, allCell, AV.cell, vInt, vBool, vStr, id, true_and, and_true, and_self, List.append_nil, List.nil_append, List.not_mem_nil, List.mem_cons, or_false, false_or, or_self, not_true_eq_false, not_false_eq_true, false_imp_iff, false_implies, List.map_nil, not_false_eq_true, List.contains_cons, List.contains_nil, Bool.or_false, Bool.false_or, Bool.true_or, Bool.or_true, Bool.and_true, Bool.true_and, implies_true, if_true, if_false, reduceCtorEq, Nat.reduceEqDiff, Nat.reduceBEq, Nat.reduceAdd, reduceIte, ↓reduceIte]
/-- WriteString, at a builder that is used, and at one that is not yet. -/
def F_ws (h : Nat → Option AObj) (d : Nat) : List AV → Option Eff
  | [.ptr o 0, .d (.v (.string s))] => match h o with
    | some (.cells t [.d (.v (.pointer none)), .d (.v (.slice none 0 0))]) => if t = 53 then some { sc := s.size ≤ 140737488355328, val := .tup [vInt .i64 s.size, .d (.v .nilIface)], up := [(o, some (.cells t [.ptr o 0, .row d (s.data.toList.map byteRow).length])), (d, some (.row 5 1 (s.data.toList.map byteRow)))], new := true } else none
    | some (.cells t [.d (.v (.pointer none)), .row b n]) => match h b with
      | some (.row e sz xs) => if t = 53 ∧ e = 5 ∧ sz = 1 ∧ n = xs.length ∧ b ≠ o then some { sc := xs.length + s.size ≤ 140737488355328, val := .tup [vInt .i64 s.size, .d (.v .nilIface)], up := [(o, some (.cells t [.ptr o 0, .row d (xs ++ s.data.toList.map byteRow).length])), (d, some (.row 5 1 (xs ++ s.data.toList.map byteRow))), (b, none)], new := true } else none
      | _ => none
    | some (.cells t [.ptr o' 0, .row b n]) => match h b with
      | some (.row e sz xs) => if o' = o ∧ t = 53 ∧ e = 5 ∧ sz = 1 ∧ n = xs.length ∧ b ≠ o then some { sc := xs.length + s.size ≤ 140737488355328, val := .tup [vInt .i64 s.size, .d (.v .nilIface)], up := [(o, some (.cells t [.ptr o 0, .row d (xs ++ s.data.toList.map byteRow).length])), (d, some (.row 5 1 (xs ++ s.data.toList.map byteRow))), (b, none)], new := true } else none
      | _ => none
    | _ => none
  | _ => none
theorem ws_calm (a : AV) (ha : a = .d (.v (.pointer none)) ∨ a = .ptr 10000 0) (xs : List (List Dat)) (s : ByteArray) (hl : xs.length + s.size ≤ 140737488355328) :
    HCalm Tryd.prog 42 [.ptr 10000 0, .d (.v (.string s))] (bldH a xs) (.tup [vInt .i64 s.size, .d (.v .nilIface)]) ((bldO (xs ++ s.data.toList.map byteRow)).map fun p => (p.1, some p.2)) := by
  refine known_cc.hcalm mixed ?_ (ws_body a ha xs s hl)
  rcases ha with rfl | rfl <;> rfl
theorem ws_ok {Γ : Gam} (hG : Gok Tryd.prog Γ) : Gok Tryd.prog (Γ.addH 42 F_ws) := by
  refine hG.addH fun hp d args e he hsc => ?_
  unfold F_ws at he
  split at he
  case h_2 => cases he
  rename_i o s
  split at he
  · rename_i t ho
    split at he
    case isFalse => cases he
    rename_i ht
    subst ht
    cases he
    refine ⟨⟨fun _ => o, [10001], [.ptr 10000 0, .d (.v (.string s))], bldH (.d (.v (.pointer none))) [], .tup [vInt .i64 s.size, .d (.v .nilIface)], bldO (s.data.toList.map byteRow), true⟩, rfl, ⟨⟨⟨by simp, rfl, rfl⟩, .inl rfl, trivial⟩, ?_, ?_⟩, ?_, rfl, fun _ => rfl, rfl⟩
    · refine ⟨?_, ?_, trivial⟩
      · rw [if_neg (by simp)]
        simp only [ho]
        exact ⟨rfl, ⟨.inl rfl, ⟨rfl, by simp, rfl⟩, trivial⟩, rfl⟩
      · rw [if_pos (by simp)]
    · exact ⟨fun _ b hb hb2 => by
        rcases List.mem_singleton.mp (show b ∈ [10001] from hb) with rfl
        exact absurd (List.mem_singleton.mpr rfl) hb2, fun h => absurd (List.mem_singleton.mpr rfl) h, trivial⟩
    · have := ws_calm (.d (.v (.pointer none))) (.inl rfl) [] s (by simpa using hsc)
      rw [List.nil_append] at this
      exact this
  · rename_i t b n ho
    split at he
    case h_2 => cases he
    rename_i e0 sz xs hb
    split at he
    case isFalse => cases he
    rename_i hc
    obtain ⟨rfl, rfl, rfl, rfl, hne⟩ := hc
    cases he
    refine ⟨⟨fun i => if i = 10001 then b else o, [], [.ptr 10000 0, .d (.v (.string s))], bldH (.d (.v (.pointer none))) xs, .tup [vInt .i64 s.size, .d (.v .nilIface)], bldO (xs ++ s.data.toList.map byteRow), true⟩, rfl, ⟨⟨⟨by simp, rfl, rfl⟩, .inl rfl, trivial⟩, ?_, ?_⟩, ws_calm (.d (.v (.pointer none))) (.inl rfl) xs s hsc, rfl, fun _ => rfl, rfl⟩
    · refine ⟨?_, ?_, trivial⟩
      · rw [if_neg (by simp)]
        simp only [show ((10000 : Nat) = 10001) = False by simp, if_false, ho]
        exact ⟨rfl, ⟨.inl rfl, ⟨by simp, rfl, rfl⟩, trivial⟩, rfl⟩
      · rw [if_neg (by simp)]
        simp only [if_true, hb]
        exact ⟨rfl, rfl, rfl⟩
    · exact ⟨fun _ b' hb' _ _ => by
        rcases List.mem_singleton.mp (show b' ∈ [10001] from hb') with rfl
        exact hne, (fun _ b' hb' => nomatch (show b' ∈ ([] : List Nat) from hb')), trivial⟩
  · rename_i t o' b n ho
    split at he
    case h_2 => cases he
    rename_i e0 sz xs hb
    split at he
    case isFalse => cases he
    rename_i hc
    obtain ⟨rfl, rfl, rfl, rfl, rfl, hne⟩ := hc
    cases he
    refine ⟨⟨fun i => if i = 10001 then b else o', [], [.ptr 10000 0, .d (.v (.string s))], bldH (.ptr 10000 0) xs, .tup [vInt .i64 s.size, .d (.v .nilIface)], bldO (xs ++ s.data.toList.map byteRow), true⟩, rfl, ⟨⟨⟨by simp, rfl, rfl⟩, .inl rfl, trivial⟩, ?_, ?_⟩, ws_calm (.ptr 10000 0) (.inr rfl) xs s hsc, rfl, fun _ => rfl, rfl⟩
    · refine ⟨?_, ?_, trivial⟩
      · rw [if_neg (by simp)]
        simp only [show ((10000 : Nat) = 10001) = False by simp, if_false, ho]
        exact ⟨rfl, ⟨⟨by simp, rfl, rfl⟩, ⟨by simp, rfl, rfl⟩, trivial⟩, rfl⟩
      · rw [if_neg (by simp)]
        simp only [if_true, hb]
        exact ⟨rfl, rfl, rfl⟩
    · exact ⟨fun _ b' hb' _ _ => by
        rcases List.mem_singleton.mp (show b' ∈ [10001] from hb') with rfl
        exact hne, (fun _ b' hb' => nomatch (show b' ∈ ([] : List Nat) from hb')), trivial⟩
  · cases he
/-- String: the bytes; the builder is let go. -/
def F_str (h : Nat → Option AObj) (_ : Nat) : List AV → Option Eff
  | [.ptr o 0] => match h o with
    | some (.cells t [_, .d (.v (.slice none 0 0))]) => if t = 53 then some { sc := True, val := vStr ⟨#[]⟩, up := [(o, none)] } else none
    | some (.cells t [_, .row b n]) => match h b with
      | some (.row e sz xs) => if t = 53 ∧ e = 5 ∧ sz = 1 ∧ n = xs.length ∧ b ≠ o then some { sc := ∀ r ∈ xs, r = byteRow (UInt8.ofNat (byteOf r).toNat), val := vStr ⟨(xs.map fun r => UInt8.ofNat (byteOf r).toNat).toArray⟩, up := [(o, none), (b, none)] } else none
      | _ => none
    | _ => none
  | _ => none
theorem get_none1 (o : Nat) (hp : Hp) (o' : Nat) (obj : AObj) (h : Hp.get ((o, none) :: hp) o' = some obj) : o' ≠ o ∧ hp.get o' = some obj := by
  rw [Hp.get_cons] at h
  split at h
  · cases h
  · exact ⟨by assumption, h⟩
theorem str_ok {Γ : Gam} (hG : Gok Tryd.prog Γ) : Gok Tryd.prog (Γ.addH 44 F_str) := by
  intro g h d args e he hsc C m w hp vals hh I hsz hv hf
  unfold Gam.addH at he
  split at he
  case isFalse => exact hG g h d args e he hsc C m w hp vals hh I hsz hv hf
  rename_i hg
  subst hg hh
  refine ⟨⟨_, Tryd.func44, by kernel_rfl, by kernel_rfl⟩, ?_⟩
  unfold F_str at he
  split at he
  case h_2 => cases he
  rename_i o
  obtain ⟨u, rfl⟩ : ∃ u, vals = #[u] := by
    have h1 : vals.size = 1 := hsz
    obtain ⟨l⟩ := vals
    match l, h1 with
    | [u], _ => exact ⟨u, rfl⟩
  have hu := hv 0 u _ rfl rfl
  cases hu with
  | @ptr _ _ b hm =>
  have same : ∀ (w' : World) (up : Hp) (v : Value) (c : AV), w'.os = w.os → w'.tape = w.tape → w'.output = w.output → w.heap.size ≤ w'.heap.size → (∀ k, k < w.heap.size → w'.heap[k]? = w.heap[k]?) → (∀ o obj, Hp.get (up ++ hp) o = some obj → hp.get o = some obj) → Val w' (im C m w' (up ++ hp)) m v c →
      Post C m w hp d { sc := True, val := c, up := up } v w' := fun w' up v c a1 a2 a3 a4 a5 a6 a7 => by
    obtain ⟨I1, k1⟩ := I.ext a1 a2 a3 a4 a5
    obtain ⟨I2, k2⟩ := I1.drop a6
    exact ⟨m, fun _ _ => rfl, I2, a7, fun b hb => ⟨(k2 b (k1 b hb).1).1, (k1 b hb).2⟩⟩
  split at he
  · rename_i t c0 ho
    split at he
    case isFalse => cases he
    rename_i ht
    subst ht
    cases he
    obtain ⟨b', us, h1, h2, h3, h4, h5⟩ := I.live o _ ho
    rw [hm] at h1
    cases h1
    obtain ⟨us⟩ := us
    match us, h3 with
    | [u0, u1], _ =>
    have q1 := h4 1 u1 _ rfl rfl
    cases q1 with
    | d q1 =>
    cases q1
    refine (bstr_nil b u0 w h2).mono ?_
    rintro en w' ⟨rfl, rfl⟩
    obtain ⟨m', p1, p2, p3, p4⟩ := same w.drew [(o, none)] (.string ⟨#[]⟩) (vStr ⟨#[]⟩) rfl rfl rfl (Nat.le_refl _) (fun _ _ => rfl) (fun o' obj h => (get_none1 o hp o' obj h).2) (.d (.v rfl))
    exact ⟨_, rfl, m', p1, p2, p3, p4⟩
  · rename_i t c0 bn n ho
    split at he
    case h_2 => cases he
    rename_i e0 sz xs hb
    split at he
    case isFalse => cases he
    rename_i hc
    obtain ⟨rfl, rfl, rfl, rfl, hne⟩ := hc
    cases he
    obtain ⟨b', us, h1, h2, h3, h4, h5⟩ := I.live o _ ho
    rw [hm] at h1
    cases h1
    obtain ⟨us⟩ := us
    match us, h3 with
    | [u0, u1], _ =>
    have q1 := h4 1 u1 _ rfl rfl
    have hgone : ∀ o' obj, Hp.get ([(o, none), (bn, none)] ++ hp) o' = some obj → o' ≠ o ∧ o' ≠ bn ∧ hp.get o' = some obj := fun o' obj h => by
      obtain ⟨g1, g2⟩ := get_none1 o _ o' obj h
      obtain ⟨g3, g4⟩ := get_none1 bn _ o' obj g2
      exact ⟨g1, g3, g4⟩
    cases q1 with
    | @row _ _ cap a hmb =>
    obtain ⟨vs, r1, r2, r3⟩ := I.live bn _ hb
    rcases r1.2 with ⟨hn, h0⟩ | ⟨gb, cap', cur, hvv, _, hh, hle, hcm, hcs, htk⟩
    · have hx : xs = [] := List.eq_nil_of_length_eq_zero h0
      subst hx
      rw [hmb] at hn
      cases hn
      refine (bstr_nil b u0 w h2).mono ?_
      rintro en w' ⟨rfl, rfl⟩
      obtain ⟨m', p1, p2, p3, p4⟩ := same w.drew [(o, none), (bn, none)] (.string ⟨#[]⟩) (vStr ⟨#[]⟩) rfl rfl rfl (Nat.le_refl _) (fun _ _ => rfl) (fun o' obj h => (hgone o' obj h).2.2) (.d (.v rfl))
      exact ⟨_, rfl, m', p1, p2, p3, p4⟩
    · rw [hmb] at hvv
      cases hvv
      by_cases hx : xs = []
      · subst hx
        by_cases hc0 : cap = 0
        · subst hc0
          refine (bstr_zero b gb u0 cur w h2 hh).mono ?_
          rintro en w' ⟨rfl, hw⟩
          have hal : ∀ k, k < w.heap.size → (w.heap.push (Obj.view ⟨gb, 0, none⟩ 5))[k]? = w.heap[k]? := fun k hk => by rw [Array.getElem?_push, if_neg (by omega)]
          have hsz' : w.heap.size ≤ (w.heap.push (Obj.view ⟨gb, 0, none⟩ 5)).size := by simp
          rcases hw with rfl | rfl
          · obtain ⟨m', p1, p2, p3, p4⟩ := same (w.drew.alloc (.view ⟨gb, 0, none⟩ 5)) [(o, none), (bn, none)] (.string ⟨#[]⟩) (vStr ⟨#[]⟩) rfl rfl rfl hsz' hal (fun o' obj h => (hgone o' obj h).2.2) (.d (.v rfl))
            exact ⟨_, rfl, m', p1, p2, p3, p4⟩
          · obtain ⟨m', p1, p2, p3, p4⟩ := same (w.alloc (.view ⟨gb, 0, none⟩ 5)).drew [(o, none), (bn, none)] (.string ⟨#[]⟩) (vStr ⟨#[]⟩) rfl rfl rfl hsz' hal (fun o' obj h => (hgone o' obj h).2.2) (.d (.v rfl))
            exact ⟨_, rfl, m', p1, p2, p3, p4⟩
        · refine (bstr_room b gb cap u0 w hc0 h2).mono ?_
          rintro en w' ⟨rfl, rfl⟩
          obtain ⟨m', p1, p2, p3, p4⟩ := same w.drew [(o, none), (bn, none)] (.string ⟨#[]⟩) (vStr ⟨#[]⟩) rfl rfl rfl (Nat.le_refl _) (fun _ _ => rfl) (fun o' obj h => (hgone o' obj h).2.2) (.d (.v rfl))
          exact ⟨_, rfl, m', p1, p2, p3, p4⟩
      · have hcell : ∀ j (x : UInt8), (xs.map fun r => UInt8.ofNat (byteOf r).toNat)[j]? = some x → w.cell? ⟨gb, j, none⟩ = some (.int .u8 x.toNat) := fun j x hj => by
          rw [List.getElem?_map] at hj
          cases hr : xs[j]? with
          | none => rw [hr] at hj; cases hj
          | some r =>
            rw [hr] at hj
            cases hj
            have hrow := hsc r (List.mem_of_getElem? hr)
            obtain ⟨v, s1, s2⟩ := r3 j 0 r (.v (.int .u8 (UInt8.ofNat (byteOf r).toNat).toNat)) hr (by rw [show r[0]? = (byteRow (UInt8.ofNat (byteOf r).toNat))[0]? from congrArg (fun l : List Dat => l[0]?) hrow]; rfl)
            cases s2
            rw [← htk, List.getElem?_take] at s1
            split at s1
            · simp only [World.cell?, hh]
              simpa using s1
            · cases s1
        refine (bstr_row b gb u0 cap cur (xs.map fun r => UInt8.ofNat (byteOf r).toNat) w (by simpa using hx) (by rw [List.length_map]; exact h2) hh (by rw [List.length_map]; exact hle) hcm (by omega) hcell).mono ?_
        rintro en w' ⟨rfl, rfl⟩
        have hfr := freeze_same w.drew ⟨gb, 0, none⟩ (xs.map fun r => UInt8.ofNat (byteOf r).toNat).length
        obtain ⟨f1, f2, f3, f4, f5⟩ := hfr
        have hgb : blk (m bn) = some gb := by rw [hmb]; rfl
        have hgo := I.own bn _ gb hb hgb
        have hnim : ¬ im C m w hp gb := I.not_im hb hgb
        have hk : ∀ b, im C m w hp b → im C m (w.drew.freeze ⟨gb, 0, none⟩ (xs.map fun r => UInt8.ofNat (byteOf r).toNat).length) ([(o, none), (bn, none)] ++ hp) b ∧ (w.drew.freeze ⟨gb, 0, none⟩ (xs.map fun r => UInt8.ofNat (byteOf r).toNat).length).heap[b]? = w.heap[b]? := fun b hb0 =>
          ⟨⟨by rw [f4]; exact hb0.1, hb0.2.1, fun o' obj h => hb0.2.2 o' obj (hgone o' obj h).2.2⟩, f5 b (fun e => hnim ((show b = gb from e) ▸ hb0))⟩
        refine ⟨_, rfl, m, fun _ _ => rfl, ⟨f1.trans I.os, f2.trans I.tape, f3.trans I.output, by rw [f4]; exact I.size, fun b0 g1 g2 => ?_, fun o' x ho' => ?_, fun o1 o2 x1 x2 b0 g1 g2 => I.sep o1 o2 x1 x2 b0 (hgone _ _ g1).2.2 (hgone _ _ g2).2.2, fun o' x b0 ho' => I.own o' x b0 (hgone _ _ ho').2.2⟩, .d (.v rfl), hk⟩
        · rw [f5 b0 (fun e => by
            have e : b0 = gb := e
            rcases hgo with h | h
            · exact g2 (e ▸ h)
            · omega)]
          exact I.frame b0 g1 g2
        · obtain ⟨g1, g2, g3⟩ := hgone o' x ho'
          exact (I.live o' x g3).mono hk (fun b0 hb0 => f5 b0 fun e => by
            have e : b0 = gb := e
            exact I.sep bn o' _ x gb hb g3 (fun q => g2 q.symm) hgb (e ▸ hb0)) rfl (fun _ _ => rfl)
  · cases he
end Go.Proofs.YtelgddealjbgiaaDoor.Eng
