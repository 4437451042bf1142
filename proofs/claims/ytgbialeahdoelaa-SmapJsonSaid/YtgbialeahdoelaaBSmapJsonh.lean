/- SmapJson: part 8 of 15. -/
import Derived.Test.YtgbialeahdoelaaBSmapJsong
section
namespace Go.Proofs.Ytgbialeahdoelaa.Eng
open Go
set_option linter.unusedVariables false
set_option linter.unusedSimpArgs false
def retZE (c : AV) (res : AV) (hp hp' : Hp) : Prop := ∃ (fr : List Nat) (ρ : Nat → Nat), Mt (pr ρ) [] (frA hp.get fr c) res ∧ hpR (pr ρ) [] (drops fr ++ hp) hp' ∧ distinct (pr ρ) [] (liveIds hp')
def retZF (P : Program) (rs : List ResultVar) (res : AV) (hp' : Hp) (s : St) : Prop :=
 match resL P s rs with
 | some l => retZE (one l) res s.hp hp'
 | none => False
def retZR (P : Program) (rs : List ResultVar) (res : AV) (hp' : Hp) : Exit → St → Prop
 | .ret, s | .normal, s => retZF P rs res hp' s
 | _, _ => False
theorem evZ : (∀ (P : Program) (rs : List ResultVar) (res : AV) (hp' : Hp) (s : St), retZR P rs res hp' .ret s = retZF P rs res hp' s) ∧ (∀ (P : Program) (rs : List ResultVar) (res : AV) (hp' : Hp) (s : St), retZR P rs res hp' .normal s = retZF P rs res hp' s) := ⟨fun _ _ _ _ _ => rfl, fun _ _ _ _ _ => rfl⟩
def HBodyZ (P : Program) (Γ : Gam) (D : Array Oper → St → (St → Prop) → Prop) (g : Nat) (args : List AV) (chp : Hp) (res : AV) (hp' : Hp) : Prop :=
 ∃ fn c, P.funcs[g]? = some fn ∧ (fn.name == "runtime.NumGoroutine") = false ∧ fn.body = some c ∧ (args.length ≤ fn.ntmps ∧ fn.ntmps ≤ 10000) ∧ wpc P Γ D c (retZR P fn.results.toList res hp') { n := fn.ntmps, used := upIds chp, sl := startL 0 args, hp := chp }
section
variable {P : Program} {Γ : Gam} {D : Array Oper → St → (St → Prop) → Prop}
theorem HBodyZ.calm (hG : Gok P Γ) (hD : DrawOk P Γ D) {g : Nat} {args : List AV} {chp : Hp} {res : AV} {hp' : Hp} (hids : subL (AV.ids.idsL args) (upIds chp) = true) (h : HBodyZ P Γ D g args chp res hp') : HCalm P g args chp res hp' := by
 obtain ⟨fn, c, h1, h2, h3, h4, h5⟩ := h
 refine ⟨⟨fn, h1, h2, by rw [h3]; rfl⟩, fun C m w vals hw0 hpin I hsz hv => ?_⟩
 have S : Sat C m { n := fn.ntmps, used := upIds chp, sl := startL 0 args, hp := chp } { tmps := vals ++ Array.replicate (fn.ntmps - vals.size) undef, defers := [] } w := by
  refine ⟨I, by simp; omega, rfl, fun t c hl => ?_, fun o obj ho => upIds_mem (get_mem ho).1, h4.2, hpin⟩
  obtain ⟨_, hc⟩ := startL_lookup args 0 t c hl
  simp only [Nat.sub_zero] at hc
  have ht : t < vals.size := by rw [hsz]; exact (List.getElem?_eq_some_iff.1 hc).1
  refine ⟨?_, fun i hi => subL_mem hids i (idsL_mem hc i hi)⟩
  have e : (vals ++ Array.replicate (fn.ntmps - vals.size) undef).getD t undef = vals.getD t undef := by
   simp [Array.getElem?_append, ht]
  simp only [e]
  exact hv t _ c (by simp [ht]) hc
 refine calls_of_wp h1 h3 (wp_mono (wpc_ok hG hD c _ _ m _ w h5 S) fun e a' w' hq => ?_)
 obtain ⟨s', m', S', hq⟩ := hq
 have fin : retZF P fn.results.toList res hp' s' → a'.defers = [] ∧ ∃ v, (results fn a'.tmps).run P w' = .ok v w' ∧ ∃ v' mm, Ending.returned v = .returned v' ∧ (∀ i, 10000 ≤ i → mm i = m i) ∧ Inv C mm w' hp' ∧ Val w' (im C mm w' hp') mm v' res := fun hq => by
  refine ⟨S'.defers, ?_⟩
  unfold retZF at hq
  split at hq
  case h_2 => exact hq.elim
  rename_i l hl
  obtain ⟨fr, ρ, r1, r2, r3⟩ := hq
  obtain ⟨vs, q1, q2, q3⟩ := results_ok S' _ l hl
  have hone := one_val q2 q3
  have hsub := drops_sub fr s'.hp
  obtain ⟨I1, k1⟩ := S'.inv.drop hsub
  have hone1 := frA_val S'.inv fr hsub (fun o ho => by rw [drops_get, if_pos ho]) hone
  obtain ⟨mm, n1, _, n2, _, n3⟩ := I1.le r2 r3
  refine ⟨_, results_run q1, _, mm, rfl, fun i hi => ?_, n2, n3 _ _ _ hone1 r1⟩
  rw [n1 i (by simp), pr, if_pos hi, S'.pin i hi, hpin i hi]
 cases e with
 | normal => exact fin hq
 | ret => exact fin hq
 | _ => exact hq.elim
theorem HBodyZ.of {g : Nat} {args : List AV} {chp : Hp} {res : AV} {hp' : Hp} {fn : Func} {c : Code} {n : Nat} (h1 : P.funcs[g]? = some fn) (hn : fn.ntmps = n) (h2 : (fn.name == "runtime.NumGoroutine") = false) (h3 : fn.body = some c) {rs : List ResultVar} (hr : fn.results = rs.toArray)
  (hl : (Nat.ble args.length n && Nat.ble n 10000) = true) {u : List Nat} (hu : upIds chp = u) (h : wpc P Γ D c (retZR P rs res hp') ⟨n, u, startL 0 args, chp⟩) : HBodyZ P Γ D g args chp res hp' := ⟨fn, c, h1, h2, h3, by rw [hn]; rw [Bool.and_eq_true] at hl; exact ⟨Nat.le_of_ble_eq_true hl.1, Nat.le_of_ble_eq_true hl.2⟩, by
 have hr' : rs = fn.results.toList := by rw [hr]
 subst hr' hu
 rw [hn]; exact h⟩
end
theorem Known.hcalmZ {P : Program} {Γ : Gam} (hm : P.follows .mixedOrders = true) (K : Known P Γ) {g : Nat} {args : List AV} {chp : Hp} {res : AV} {hp' : Hp} (hids : subL (AV.ids.idsL args) (upIds chp) = true) (h : HBodyZ P Γ (DRun P Γ) g args chp res hp') : HCalm P g args chp res hp' :=
 h.calm K.ok (Draws hm K.ok K.loc) hids
end Go.Proofs.Ytgbialeahdoelaa.Eng

end

section
namespace Go.Proofs.Ytgbialeahdoelaa.Eng
open Go
set_option linter.unusedVariables false
set_option linter.unusedSimpArgs false
def F_obj (T : Nat) (f : List Dat → List Dat → Option (Prop × AV × List Dat)) (h : Nat → Option AObj) (_ : Nat) : List AV → Option Eff
 | .ptr o 0 :: args => match h o with
  | some (.cells t cs) => if t = T then match dats cs, dats args with
    | some ds, some das => match f ds das with
     | some (sc, res, ds') => some { sc := sc, val := res, up := [(o, some (.cells T (ds'.map .d)))] }
     | none => none
    | _, _ => none
   else none
  | _ => none
 | _ => none
theorem map_d_ids : ∀ l : List Dat, AV.ids.idsL (l.map .d) = []
 | [] => rfl
 | _ :: l => map_d_ids l
theorem map_d_cell : ∀ l : List Dat, allCell (l.map AV.d) = true
 | [] => rfl
 | _ :: l => by
  have := map_d_cell l
  unfold allCell at this ⊢
  rw [List.map_cons, List.all_cons, this]; rfl
theorem rnL_ds (τ : Nat → Nat) : ∀ l : List Dat, AV.rn.rnL τ (l.map .d) = l.map .d
 | [] => rfl
 | x :: l => by rw [List.map_cons, AV.rn.rnL, rnL_ds τ l]; rfl
theorem obj_ok' {P : Program} {T g : Nat} {f : List Dat → List Dat → Option (Prop × AV × List Dat)} (pd : List Dat → Prop)
  (hf : ∀ ds das sc res ds', f ds das = some (sc, res, ds') → sc → pd das → (∀ τ, res.rn τ = res) ∧ res.ids = [] ∧ HCalm P g (.ptr 10000 0 :: das.map .d) [(10000, some (.cells T (ds.map .d)))] res [(10000, some (.cells T (ds'.map .d)))])
  (hp : Hp) (d : Nat) (args : List AV) (e : Eff) (he : F_obj T f hp.get d args = some e) (hs : e.sc) (hpd : ∀ o das, args = .ptr o 0 :: das.map .d → pd das) : HOk P g hp d args e := by
 unfold F_obj at he
 split at he
 case h_2 => cases he
 rename_i o args
 split at he
 case h_2 => cases he
 rename_i t cs ho
 split at he
 case isFalse => cases he
 rename_i ht
 subst ht
 split at he
 case h_2 => cases he
 rename_i ds das hd hda
 split at he
 case h_2 => cases he
 rename_i sc res ds' hff
 cases he
 have hcs := dats_get hd
 have hargs := dats_get hda
 obtain ⟨h1, h2, h3⟩ := hf ds das sc res ds' hff hs (hpd o das (by rw [hargs]))
 subst hcs hargs
 refine ⟨⟨fun _ => o, [], .ptr 10000 0 :: das.map .d, [(10000, some (.cells t (ds.map .d)))], res, [(10000, .cells t (ds'.map .d))], false⟩, ?_, ⟨⟨⟨by simp, rfl, rfl⟩, MtL_ds _ _ _⟩, ?_, ?_⟩, h3, (h1 _).symm, fun o' => ?_, rfl⟩
 ·simp only [HCall.tidy, HCall.hp', List.map_cons, List.map_nil, liveIds, AV.ids.idsL, AV.ids, map_d_ids, upIds, AObj.ids, h2]
  rfl
 ·refine ⟨?_, trivial⟩
  rw [if_neg (by simp)]
  simp only [ho]
  exact ⟨rfl, MtL_ds _ _ _, map_d_cell _⟩
 ·exact ⟨(fun _ b hb => nomatch (show b ∈ ([] : List Nat) from hb)), trivial⟩
 ·show Hp.get ([(o, some (.cells t (ds'.map .d)))] ++ hp) o' = Hp.get (HCall.up _ d ++ hp) o'
  congr 2
  simp only [HCall.up, HCall.gone, HCall.τ, List.map_cons, List.map_nil, liveIds, AObj.rn, rnL_ds]
  rfl
theorem obj_ok {P : Program} {T g : Nat} {f : List Dat → List Dat → Option (Prop × AV × List Dat)}
  (hf : ∀ ds das sc res ds', f ds das = some (sc, res, ds') → sc → (∀ τ, res.rn τ = res) ∧ res.ids = [] ∧ HCalm P g (.ptr 10000 0 :: das.map .d) [(10000, some (.cells T (ds.map .d)))] res [(10000, some (.cells T (ds'.map .d)))])
  (hp : Hp) (d : Nat) (args : List AV) (e : Eff) (he : F_obj T f hp.get d args = some e) (hs : e.sc) : HOk P g hp d args e :=
 obj_ok' (fun _ => True) (fun ds das sc res ds' h1 h2 _ => hf ds das sc res ds' h1 h2) hp d args e he hs (fun _ _ _ => trivial)
theorem obj_loc {T : Nat} {f : List Dat → List Dat → Option (Prop × AV × List Dat)} (d : Nat) (args : List AV) (h h' : Nat → Option AObj) (ha : Agree (AV.ids.idsL args) h h') : F_obj T f h d args = F_obj T f h' d args := by
 unfold F_obj
 split
 ·rw [ha _ (by simp [AV.ids.idsL, AV.ids])]
 ·rfl
theorem Known.addO {P : Program} {Γ : Gam} (K : Known P Γ) {T g : Nat} {f : List Dat → List Dat → Option (Prop × AV × List Dat)}
  (hf : ∀ ds das sc res ds', f ds das = some (sc, res, ds') → sc → (∀ τ, res.rn τ = res) ∧ res.ids = [] ∧ HCalm P g (.ptr 10000 0 :: das.map .d) [(10000, some (.cells T (ds.map .d)))] res [(10000, some (.cells T (ds'.map .d)))]) : Known P (Γ.addH g (F_obj T f)) :=
 K.addH (obj_ok hf) (fun d args h h' ha => obj_loc d args h h' ha)
end Go.Proofs.Ytgbialeahdoelaa.Eng

end

section
namespace Go.Proofs.Ytgbialeahdoelaa.Eng
open Go Go.Proofs.Ytgbialeahdoelaa.Base
set_option maxRecDepth 100000
set_option linter.unusedSimpArgs false
set_option linter.unusedVariables false
abbrev Tk := Int × Int × Int
abbrev Rs := Nat × Int × Int
def rAt (b : List Int) (ts : List Tk) (n : Nat) : Int := if n < ts.length then (ts.getD n (0, 0, 0)).2.1 else b.length
def rIs (ts : List Tk) (s : Rs) (k : Int) : Bool := decide (s.2.1 = 0) && (decide (s.1 < ts.length) && decide ((ts.getD s.1 (0, 0, 0)).1 = k))
def rFail (b : List Int) (ts : List Tk) (e : Int) (s : Rs) : Rs := if s.2.1 = 0 then (s.1, e, rAt b ts s.1) else s
def rMark (b : List Int) (ts : List Tk) (k : Int) (s : Rs) : Int × Rs := if rIs ts s k = true then (rAt b ts s.1, (s.1 + 1, s.2)) else (0, rFail b ts 3 s)
inductive JV where
 | mk (kind : Int) (text : List Int) (neg : Bool) (dig exp : ByteArray) (items : List JV) (frm til : Int) (marks : List Int)
mutual
def jvD : JV → List Dat
 | .mk k t n d e l f o m => [.v (.int .i64 k), .sl 1 (t.map (iD .i64)), .v (.bool n), .v (.string d), .v (.string e), .sl 9 (jvDs l), .v (.int .i64 f), .v (.int .i64 o), .sl 1 (m.map (iD .i64))]
def jvDs : List JV → List (List Dat)
 | [] => []
 | v :: l => jvD v :: jvDs l
end
theorem jvDs_map : ∀ l : List JV, jvDs l = l.map jvD
 | [] => by rw [jvDs]; rfl
 | v :: l => by rw [jvDs, jvDs_map l]; rfl
abbrev eS : ByteArray := ByteArray.empty
def jv0 : JV := .mk 0 [] false eS eS [] 0 0 []
def tkB (b : List Int) (ts : List Tk) (n : Nat) : List Int := Jlex.slice b (ts.getD n (0, 0, 0))
def rText (b : List Int) (ts : List Tk) (s : Rs) : JV × Rs :=
 if rIs ts s 7 = true then (.mk 3 (juF (tkB b ts s.1)).1 false eS eS [] (ts.getD s.1 (0, 0, 0)).2.1 0 [], (s.1 + 1, s.2)) else (jv0, rFail b ts 3 s)
def tksOk (b : List Int) (ts : List Tk) : Prop := Bytes b ∧ b.length ≤ 20000 ∧ ts.length ≤ 20000 ∧ ∀ x ∈ ts, 0 ≤ x.2.1 ∧ x.2.1 ≤ x.2.2 ∧ x.2.2 ≤ b.length ∧ 0 ≤ x.1 ∧ x.1 ≤ 11
theorem tksOk_at {b : List Int} {ts : List Tk} (h : tksOk b ts) (n : Nat) : 0 ≤ (ts.getD n (0, 0, 0)).2.1 ∧ (ts.getD n (0, 0, 0)).2.1 ≤ (ts.getD n (0, 0, 0)).2.2 ∧ (ts.getD n (0, 0, 0)).2.2 ≤ b.length ∧ 0 ≤ (ts.getD n (0, 0, 0)).1 ∧ (ts.getD n (0, 0, 0)).1 ≤ 11 := by
 rw [List.getD_eq_getElem?_getD]
 cases hx : ts[n]? with
 | none => exact ⟨Int.le_refl 0, Int.le_refl 0, Int.natCast_nonneg _, Int.le_refl 0, by decide⟩
 | some x => exact h.2.2.2 x (List.mem_of_getElem? hx)
def rdD (b : List Int) (ts : List Tk) (s : Rs) : List Dat := [.sl 1 (b.map (iD .u8)), .sl 3 (ts.map tkR), .v (.int .i64 s.1), .v (.int .i64 s.2.1), .v (.int .i64 s.2.2)]
def rdH (b : List Int) (ts : List Tk) (s : Rs) : Hp := [(10000, some (.cells 70 ((rdD b ts s).map .d)))]
def tkO : List Dat → Tk
 | [.v (.int .i64 k), .v (.int .i64 f), .v (.int .i64 t)] => (k, f, t)
 | _ => (0, 0, 0)
theorem tkO_R (ts : List Tk) : (ts.map tkR).map tkO = ts := by
 induction ts with
 | nil => rfl
 | cons x l ih => rw [List.map_cons, List.map_cons, ih]; rfl
def rdF (f : List Int → List Tk → Rs → List Dat → Option (Prop × AV × Rs)) : List Dat → List Dat → Option (Prop × AV × List Dat)
 | [.sl 1 bs, .sl 3 ks, .v (.int .i64 n), .v (.int .i64 e), .v (.int .i64 a)], das => match f (bs.map numOf) (ks.map tkO) (n.toNat, e, a) das with
  | some (sc, res, s') => some (bs = (bs.map numOf).map (iD .u8) ∧ ks = (ks.map tkO).map tkR ∧ 0 ≤ n ∧ sc, res, rdD (bs.map numOf) (ks.map tkO) s')
  | none => none
 | _, _ => none
theorem rdF_inv {f : List Int → List Tk → Rs → List Dat → Option (Prop × AV × Rs)} {ds das : List Dat} {sc : Prop} {res : AV} {ds' : List Dat} (h : rdF f ds das = some (sc, res, ds')) (hs : sc) : ∃ b ts s sc0 s', ds = rdD b ts s ∧ ds' = rdD b ts s' ∧ f b ts s das = some (sc0, res, s') ∧ sc0 := by
 unfold rdF at h
 split at h
 case h_2 => cases h
 rename_i das bs ks n e a
 split at h
 case h_2 => cases h
 rename_i sc0 res0 s' hf
 cases h
 obtain ⟨h1, h2, h3, h4⟩ := hs
 refine ⟨bs.map numOf, ks.map tkO, (n.toNat, e, a), sc0, s', ?_, rfl, hf, h4⟩
 unfold rdD
 rw [← h1, ← h2]
 simp only [Int.toNat_of_nonneg h3]
def f_at (b : List Int) (ts : List Tk) (s : Rs) : List Dat → Option (Prop × AV × Rs)
 | [] => some (tksOk b ts, vInt .i64 (rAt b ts s.1), s)
 | _ => none
def f_is (b : List Int) (ts : List Tk) (s : Rs) : List Dat → Option (Prop × AV × Rs)
 | [.v (.int .i64 k)] => some (tksOk b ts, vBool (rIs ts s k), s)
 | _ => none
def f_fail (b : List Int) (ts : List Tk) (s : Rs) : List Dat → Option (Prop × AV × Rs)
 | [.v (.int .i64 e)] => some (tksOk b ts ∧ 0 ≤ e ∧ e ≤ 10, .tup [], rFail b ts e s)
 | _ => none
def f_mark (b : List Int) (ts : List Tk) (s : Rs) : List Dat → Option (Prop × AV × Rs)
 | [.v (.int .i64 k)] => some (tksOk b ts, vInt .i64 (rMark b ts k s).1, (rMark b ts k s).2)
 | _ => none
def f_text (b : List Int) (ts : List Tk) (s : Rs) : List Dat → Option (Prop × AV × Rs)
 | [] => some (tksOk b ts, .agg ((jvD (rText b ts s).1).map .d), (rText b ts s).2)
 | _ => none
theorem rd_calm {g : Nat} {f : List Int → List Tk → Rs → List Dat → Option (Prop × AV × Rs)}
  (hb : ∀ b ts s das sc0 res s', f b ts s das = some (sc0, res, s') → sc0 → (∀ τ, res.rn τ = res) ∧ res.ids = [] ∧ HCalm Try.prog g (.ptr 10000 0 :: das.map .d) (rdH b ts s) res (rdH b ts s')) :
  ∀ ds das sc res ds', rdF f ds das = some (sc, res, ds') → sc → (∀ τ, res.rn τ = res) ∧ res.ids = [] ∧ HCalm Try.prog g (.ptr 10000 0 :: das.map .d) [(10000, some (.cells 70 (ds.map .d)))] res [(10000, some (.cells 70 (ds'.map .d)))] := by
 intro ds das sc res ds' h hs
 obtain ⟨b, ts, s, sc0, s', rfl, rfl, h1, h2⟩ := rdF_inv h hs
 exact hb b ts s das sc0 res s' h1 h2
theorem hids_rd (b : List Int) (ts : List Tk) (s : Rs) (das : List Dat) : subL (AV.ids.idsL (.ptr 10000 0 :: das.map .d)) (upIds (rdH b ts s)) = true := by
 simp only [AV.ids.idsL, AV.ids, map_d_ids, rdH, upIds]
 rfl
theorem at_body (b : List Int) (ts : List Tk) (s : Rs) (h : tksOk b ts) : HBodyZ Try.prog Gam.none (DRun Try.prog Gam.none) 57 [.ptr 10000 0] (rdH b ts s) (vInt .i64 (rAt b ts s.1)) (rdH b ts s) := by
 refine HBodyZ.of Try.func57 Try.ntmps57 (by kernel_rfl) rfl rfl rfl rfl ?_
 simp only [rdH, rdD, evZ, retZF, tk_at, tk_cells, List.length_map, List.map_cons, List.map_nil, Int.toNat_natCast, Int.reduceLE, Int.reduceLT, Int.reduceGT, Int.reduceGE, Int.reduceBEq, Int.reduceBNe, Int.reduceEq, Int.reduceToNat, Int.reduceSub, Int.reduceAdd, Int.reduceMul, Int.reducePow, Int.reduceNeg, goTG_val, goTG_new, goTG_up, goTG_none, goG_none, goG_new, goG_up, ne_eq, evK, evH, retHF, DRun_mk, runT_nil, runT_none, runT_guard, goT_val, goT_new, goT_store, goTH_true, goTH_false, evO, keys, Option.toList_some, Option.toList_none, nzL_nil, nzL_cons, nz_k, nz_sl, nz_nil, nz_agg, startL, evC, evV, goE_val, goE_new, goE_store, goH_true, goH_false, goG_val, lk_cons, lk_nil, lk_func, lk_int, lk_bool, lk_string, lk_slice, lk_agg, look_mk, St.effOf, eff, effCall, effBinC, isConst, effBin, effUn, effConv, effPick, effNil, effFold, fold1, effLoad, effStore, effFieldAddr, effField, fieldOf, sliceOf, effIndexAddr, effIndex, effLen, effExtract, effSlice, dats, bnd, effBuild, placesOf, effBuildSlice, effMakeSlice, effAppend, srcOf, fillA, chunk, seg, toD, toDs, put, eqAV, fieldsEq, leafEq, strip, unw, allB, selP_or, selP_and, tis, TyD.agg, AV.cells, AV.cell, allCell, vInt, vBool, vStr, subL_nil, subL_cons, upIds, AV.ids, AV.ids.idsL, AObj.ids, drops, Hp.get_cons, get_nil, retF, resL, one, fz, fz.fzL, List.map_cons, List.map_nil, List.nil_append, List.append_nil, List.cons_append, List.all_cons, List.all_nil, List.length_cons, List.length_nil, List.getElem?_cons_zero, List.getElem?_cons_succ, List.getD_cons_zero, List.getD_cons_succ, List.take_succ_cons, List.take_zero, List.drop_succ_cons, List.drop_zero, List.take_nil, List.drop_nil, List.contains_cons, List.contains_nil, Option.getD_some, Option.getD_none, Option.map_some, Option.map_none, if_true, if_false, true_and, and_true, and_self, or_self, or_false, false_or, false_and, and_false, reduceCtorEq, sel_and, sel_or, decide_eq_true_eq, Bool.and_eq_true, Bool.or_eq_true, Bool.and_true, Bool.true_and, Bool.or_false, Bool.false_or, Bool.true_or, Bool.or_true, Bool.not_true, Bool.not_false, Bool.false_eq_true, implies_true, not_false_eq_true, Nat.reduceLT, Nat.reduceEqDiff, Nat.reduceAdd, Nat.reduceMul, Nat.reduceMod, Nat.reduceLeDiff, Nat.reduceBEq, Nat.zero_add, Nat.add_zero, reduceIte, ↓reduceIte, List.not_mem_nil]
 refine ⟨by kernel_rfl, ?_⟩
 by_cases c : s.1 < ts.length
 ·rw [if_pos (by omega)]
  refine ⟨by omega, by kernel_rfl, [], fun o => o, ?_⟩
  simp only [rAt, if_pos c, drops, frA, frA.frL, List.cons_append, Mt_tup, Mt_agg, Mt_fn, forall_eq, forall_eq_or_imp, ne_eq, List.all_cons, List.all_nil, pr, Nat.reduceLeDiff, slR_nil, slR_cons, hpR_nil, hpR_cells, hpR_row, idsR_nil, idsR_cons, mtE_v, mtE_sl, mtE_nil, mtE_refl, mtE_row, mtE_born, mtE_ptr, mtE_rp, mtE_agg, mtE_tup, mtE_fn, mtE_ep, MtL_nil, MtL_cons, Mt_v, Mt_sl, Mt_nil, Mt_refl, Mt_row, Mt_born, Mt_ptr, MtO_cells, MtO_row, liveIds, distinct, Dat.v.injEq, Dat.sl.injEq, Value.int.injEq, Value.bool.injEq, Value.string.injEq, lk_cons, lk_nil, subL_nil, subL_cons, upIds, AV.ids, AV.ids.idsL, AObj.ids, Hp.get_cons, get_nil, allCell, AV.cell, vInt, vBool, vStr, id, true_and, and_true, and_self, List.append_nil, List.nil_append, List.not_mem_nil, List.mem_cons, or_false, false_or, or_self, not_true_eq_false, not_false_eq_true, false_imp_iff, false_implies, List.map_nil, not_false_eq_true, List.contains_cons, List.contains_nil, Bool.or_false, Bool.false_or, Bool.true_or, Bool.or_true, Bool.and_true, Bool.true_and, implies_true, if_true, if_false, reduceCtorEq, Nat.reduceEqDiff, Nat.reduceBEq, Nat.reduceAdd, reduceIte, ↓reduceIte]
 ·rw [if_neg (by omega)]
  refine ⟨[], fun o => o, ?_⟩
  simp only [rAt, if_neg c, drops, frA, frA.frL, List.cons_append, Mt_tup, Mt_agg, Mt_fn, forall_eq, forall_eq_or_imp, ne_eq, List.all_cons, List.all_nil, pr, Nat.reduceLeDiff, slR_nil, slR_cons, hpR_nil, hpR_cells, hpR_row, idsR_nil, idsR_cons, mtE_v, mtE_sl, mtE_nil, mtE_refl, mtE_row, mtE_born, mtE_ptr, mtE_rp, mtE_agg, mtE_tup, mtE_fn, mtE_ep, MtL_nil, MtL_cons, Mt_v, Mt_sl, Mt_nil, Mt_refl, Mt_row, Mt_born, Mt_ptr, MtO_cells, MtO_row, liveIds, distinct, Dat.v.injEq, Dat.sl.injEq, Value.int.injEq, Value.bool.injEq, Value.string.injEq, lk_cons, lk_nil, subL_nil, subL_cons, upIds, AV.ids, AV.ids.idsL, AObj.ids, Hp.get_cons, get_nil, allCell, AV.cell, vInt, vBool, vStr, id, true_and, and_true, and_self, List.append_nil, List.nil_append, List.not_mem_nil, List.mem_cons, or_false, false_or, or_self, not_true_eq_false, not_false_eq_true, false_imp_iff, false_implies, List.map_nil, not_false_eq_true, List.contains_cons, List.contains_nil, Bool.or_false, Bool.false_or, Bool.true_or, Bool.or_true, Bool.and_true, Bool.true_and, implies_true, if_true, if_false, reduceCtorEq, Nat.reduceEqDiff, Nat.reduceBEq, Nat.reduceAdd, reduceIte, ↓reduceIte]
theorem at_c : ∀ b ts s das sc0 res s', f_at b ts s das = some (sc0, res, s') → sc0 → (∀ τ, res.rn τ = res) ∧ res.ids = [] ∧ HCalm Try.prog 57 (.ptr 10000 0 :: das.map .d) (rdH b ts s) res (rdH b ts s') := by
 intro b ts s das sc0 res s' h hs
 unfold f_at at h
 split at h <;> cases h
 exact ⟨fun _ => rfl, rfl, (Known.none _).hcalmZ mixed (hids_rd b ts s []) (at_body b ts s hs)⟩
theorem is_body (b : List Int) (ts : List Tk) (s : Rs) (h : tksOk b ts) (k : Int) : HBodyZ Try.prog Gam.none (DRun Try.prog Gam.none) 53 [.ptr 10000 0, vInt .i64 k] (rdH b ts s) (vBool (rIs ts s k)) (rdH b ts s) := by
 refine HBodyZ.of Try.func53 Try.ntmps53 (by kernel_rfl) rfl rfl rfl rfl ?_
 simp only [rdH, rdD, evZ, retZF, tk_at, tk_cells, List.length_map, List.map_cons, List.map_nil, Int.toNat_natCast, Int.reduceLE, Int.reduceLT, Int.reduceGT, Int.reduceGE, Int.reduceBEq, Int.reduceBNe, Int.reduceEq, Int.reduceToNat, Int.reduceSub, Int.reduceAdd, Int.reduceMul, Int.reducePow, Int.reduceNeg, goTG_val, goTG_new, goTG_up, goTG_none, goG_none, goG_new, goG_up, ne_eq, evK, evH, retHF, DRun_mk, runT_nil, runT_none, runT_guard, goT_val, goT_new, goT_store, goTH_true, goTH_false, evO, keys, Option.toList_some, Option.toList_none, nzL_nil, nzL_cons, nz_k, nz_sl, nz_nil, nz_agg, startL, evC, evV, goE_val, goE_new, goE_store, goH_true, goH_false, goG_val, lk_cons, lk_nil, lk_func, lk_int, lk_bool, lk_string, lk_slice, lk_agg, look_mk, St.effOf, eff, effCall, effBinC, isConst, effBin, effUn, effConv, effPick, effNil, effFold, fold1, effLoad, effStore, effFieldAddr, effField, fieldOf, sliceOf, effIndexAddr, effIndex, effLen, effExtract, effSlice, dats, bnd, effBuild, placesOf, effBuildSlice, effMakeSlice, effAppend, srcOf, fillA, chunk, seg, toD, toDs, put, eqAV, fieldsEq, leafEq, strip, unw, allB, selP_or, selP_and, tis, TyD.agg, AV.cells, AV.cell, allCell, vInt, vBool, vStr, subL_nil, subL_cons, upIds, AV.ids, AV.ids.idsL, AObj.ids, drops, Hp.get_cons, get_nil, retF, resL, one, fz, fz.fzL, List.map_cons, List.map_nil, List.nil_append, List.append_nil, List.cons_append, List.all_cons, List.all_nil, List.length_cons, List.length_nil, List.getElem?_cons_zero, List.getElem?_cons_succ, List.getD_cons_zero, List.getD_cons_succ, List.take_succ_cons, List.take_zero, List.drop_succ_cons, List.drop_zero, List.take_nil, List.drop_nil, List.contains_cons, List.contains_nil, Option.getD_some, Option.getD_none, Option.map_some, Option.map_none, if_true, if_false, true_and, and_true, and_self, or_self, or_false, false_or, false_and, and_false, reduceCtorEq, sel_and, sel_or, decide_eq_true_eq, Bool.and_eq_true, Bool.or_eq_true, Bool.and_true, Bool.true_and, Bool.or_false, Bool.false_or, Bool.true_or, Bool.or_true, Bool.not_true, Bool.not_false, Bool.false_eq_true, implies_true, not_false_eq_true, Nat.reduceLT, Nat.reduceEqDiff, Nat.reduceAdd, Nat.reduceMul, Nat.reduceMod, Nat.reduceLeDiff, Nat.reduceBEq, Nat.zero_add, Nat.add_zero, reduceIte, ↓reduceIte, List.not_mem_nil]
 refine ⟨fun h => by omega, by kernel_rfl, [], fun o => o, ?_⟩
 simp only [drops, frA, frA.frL, List.cons_append, Mt_tup, Mt_agg, Mt_fn, forall_eq, forall_eq_or_imp, ne_eq, List.all_cons, List.all_nil, pr, Nat.reduceLeDiff, slR_nil, slR_cons, hpR_nil, hpR_cells, hpR_row, idsR_nil, idsR_cons, mtE_v, mtE_sl, mtE_nil, mtE_refl, mtE_row, mtE_born, mtE_ptr, mtE_rp, mtE_agg, mtE_tup, mtE_fn, mtE_ep, MtL_nil, MtL_cons, Mt_v, Mt_sl, Mt_nil, Mt_refl, Mt_row, Mt_born, Mt_ptr, MtO_cells, MtO_row, liveIds, distinct, Dat.v.injEq, Dat.sl.injEq, Value.int.injEq, Value.bool.injEq, Value.string.injEq, lk_cons, lk_nil, subL_nil, subL_cons, upIds, AV.ids, AV.ids.idsL, AObj.ids, Hp.get_cons, get_nil, allCell, AV.cell, vInt, vBool, vStr, id, true_and, and_true, and_self, List.append_nil, List.nil_append, List.not_mem_nil, List.mem_cons, or_false, false_or, or_self, not_true_eq_false, not_false_eq_true, false_imp_iff, false_implies, List.map_nil, not_false_eq_true, List.contains_cons, List.contains_nil, Bool.or_false, Bool.false_or, Bool.true_or, Bool.or_true, Bool.and_true, Bool.true_and, implies_true, if_true, if_false, reduceCtorEq, Nat.reduceEqDiff, Nat.reduceBEq, Nat.reduceAdd, reduceIte, ↓reduceIte]
 unfold rIs
 by_cases c1 : s.2.1 = 0
 ·by_cases c2 : s.1 < ts.length
  ·rw [if_pos ⟨by rw [c1]; rfl, by omega⟩, decide_eq_true c1, decide_eq_true c2, Bool.true_and, Bool.true_and]
   rw [Bool.eq_iff_iff, beq_iff_eq, decide_eq_true_eq]
  ·rw [if_neg (fun h => c2 (by omega)), decide_eq_false c2, Bool.false_and, Bool.and_false]
 ·rw [if_neg (fun h => c1 (by simpa using h.1)), decide_eq_false c1, Bool.false_and]
theorem is_c : ∀ b ts s das sc0 res s', f_is b ts s das = some (sc0, res, s') → sc0 → (∀ τ, res.rn τ = res) ∧ res.ids = [] ∧ HCalm Try.prog 53 (.ptr 10000 0 :: das.map .d) (rdH b ts s) res (rdH b ts s') := by
 intro b ts s das sc0 res s' h hs
 unfold f_is at h
 split at h <;> cases h
 exact ⟨fun _ => rfl, rfl, (Known.none _).hcalmZ mixed (hids_rd b ts s [.v (.int .i64 _)]) (is_body b ts s hs _)⟩
noncomputable def G_r1 : Gam := (Gam.none.addH 57 (F_obj 70 (rdF f_at))).addH 53 (F_obj 70 (rdF f_is))
theorem known_r1 : Known Try.prog G_r1 := ((Known.none _).addO (rd_calm at_c)).addO (rd_calm is_c)
theorem G_r1_at : (∀ h d a, G_r1 57 h d a = F_obj 70 (rdF f_at) h d a) ∧ (∀ h d a, G_r1 53 h d a = F_obj 70 (rdF f_is) h d a) := ⟨fun _ _ _ => rfl, fun _ _ _ => rfl⟩
theorem fail_body (b : List Int) (ts : List Tk) (s : Rs) (h : tksOk b ts) (e : Int) (he : 0 ≤ e ∧ e ≤ 10) : HBodyZ Try.prog G_r1 (DRun Try.prog G_r1) 33 [.ptr 10000 0, vInt .i64 e] (rdH b ts s) (.tup []) (rdH b ts (rFail b ts e s)) := by
 refine HBodyZ.of Try.func33 Try.ntmps33 (by kernel_rfl) rfl rfl rfl rfl ?_
 simp only [rdH, rdD, evZ, retZF, G_r1_at, F_obj, rdF, f_at, f_is, num_iD, tkO_R, tk_at, tk_cells, List.length_map, List.map_cons, List.map_nil, Int.toNat_natCast, Int.reduceLE, Int.reduceLT, Int.reduceGT, Int.reduceGE, Int.reduceBEq, Int.reduceBNe, Int.reduceEq, Int.reduceToNat, Int.reduceSub, Int.reduceAdd, Int.reduceMul, Int.reducePow, Int.reduceNeg, goTG_val, goTG_new, goTG_up, goTG_none, goG_none, goG_new, goG_up, ne_eq, evK, evH, retHF, DRun_mk, runT_nil, runT_none, runT_guard, goT_val, goT_new, goT_store, goTH_true, goTH_false, evO, keys, Option.toList_some, Option.toList_none, nzL_nil, nzL_cons, nz_k, nz_sl, nz_nil, nz_agg, startL, evC, evV, goE_val, goE_new, goE_store, goH_true, goH_false, goG_val, lk_cons, lk_nil, lk_func, lk_int, lk_bool, lk_string, lk_slice, lk_agg, look_mk, St.effOf, eff, effCall, effBinC, isConst, effBin, effUn, effConv, effPick, effNil, effFold, fold1, effLoad, effStore, effFieldAddr, effField, fieldOf, sliceOf, effIndexAddr, effIndex, effLen, effExtract, effSlice, dats, bnd, effBuild, placesOf, effBuildSlice, effMakeSlice, effAppend, srcOf, fillA, chunk, seg, toD, toDs, put, eqAV, fieldsEq, leafEq, strip, unw, allB, selP_or, selP_and, tis, TyD.agg, AV.cells, AV.cell, allCell, vInt, vBool, vStr, subL_nil, subL_cons, upIds, AV.ids, AV.ids.idsL, AObj.ids, drops, Hp.get_cons, get_nil, retF, resL, one, fz, fz.fzL, List.map_cons, List.map_nil, List.nil_append, List.append_nil, List.cons_append, List.all_cons, List.all_nil, List.length_cons, List.length_nil, List.getElem?_cons_zero, List.getElem?_cons_succ, List.getD_cons_zero, List.getD_cons_succ, List.take_succ_cons, List.take_zero, List.drop_succ_cons, List.drop_zero, List.take_nil, List.drop_nil, List.contains_cons, List.contains_nil, Option.getD_some, Option.getD_none, Option.map_some, Option.map_none, if_true, if_false, true_and, and_true, and_self, or_self, or_false, false_or, false_and, and_false, reduceCtorEq, sel_and, sel_or, decide_eq_true_eq, Bool.and_eq_true, Bool.or_eq_true, Bool.and_true, Bool.true_and, Bool.or_false, Bool.false_or, Bool.true_or, Bool.or_true, Bool.not_true, Bool.not_false, Bool.false_eq_true, implies_true, not_false_eq_true, Nat.reduceLT, Nat.reduceEqDiff, Nat.reduceAdd, Nat.reduceMul, Nat.reduceMod, Nat.reduceLeDiff, Nat.reduceBEq, Nat.zero_add, Nat.add_zero, reduceIte, ↓reduceIte, List.not_mem_nil]
 unfold rFail
 by_cases c : s.2.1 = 0
 ·rw [if_pos (by rw [c]; rfl)]
  refine ⟨⟨by omega, h⟩, [], fun o => o, ?_⟩
  simp only [if_pos c, drops, frA, frA.frL, List.cons_append, Mt_tup, Mt_agg, Mt_fn, forall_eq, forall_eq_or_imp, ne_eq, List.all_cons, List.all_nil, pr, Nat.reduceLeDiff, slR_nil, slR_cons, hpR_nil, hpR_cells, hpR_row, idsR_nil, idsR_cons, mtE_v, mtE_sl, mtE_nil, mtE_refl, mtE_row, mtE_born, mtE_ptr, mtE_rp, mtE_agg, mtE_tup, mtE_fn, mtE_ep, MtL_nil, MtL_cons, Mt_v, Mt_sl, Mt_nil, Mt_refl, Mt_row, Mt_born, Mt_ptr, MtO_cells, MtO_row, liveIds, distinct, Dat.v.injEq, Dat.sl.injEq, Value.int.injEq, Value.bool.injEq, Value.string.injEq, lk_cons, lk_nil, subL_nil, subL_cons, upIds, AV.ids, AV.ids.idsL, AObj.ids, Hp.get_cons, get_nil, allCell, AV.cell, vInt, vBool, vStr, id, true_and, and_true, and_self, List.append_nil, List.nil_append, List.not_mem_nil, List.mem_cons, or_false, false_or, or_self, not_true_eq_false, not_false_eq_true, false_imp_iff, false_implies, List.map_nil, not_false_eq_true, List.contains_cons, List.contains_nil, Bool.or_false, Bool.false_or, Bool.true_or, Bool.or_true, Bool.and_true, Bool.true_and, implies_true, if_true, if_false, reduceCtorEq, Nat.reduceEqDiff, Nat.reduceBEq, Nat.reduceAdd, reduceIte, ↓reduceIte]
 ·rw [if_neg (by simpa using c)]
  refine ⟨[], fun o => o, ?_⟩
  simp only [if_neg c, drops, frA, frA.frL, List.cons_append, Mt_tup, Mt_agg, Mt_fn, forall_eq, forall_eq_or_imp, ne_eq, List.all_cons, List.all_nil, pr, Nat.reduceLeDiff, slR_nil, slR_cons, hpR_nil, hpR_cells, hpR_row, idsR_nil, idsR_cons, mtE_v, mtE_sl, mtE_nil, mtE_refl, mtE_row, mtE_born, mtE_ptr, mtE_rp, mtE_agg, mtE_tup, mtE_fn, mtE_ep, MtL_nil, MtL_cons, Mt_v, Mt_sl, Mt_nil, Mt_refl, Mt_row, Mt_born, Mt_ptr, MtO_cells, MtO_row, liveIds, distinct, Dat.v.injEq, Dat.sl.injEq, Value.int.injEq, Value.bool.injEq, Value.string.injEq, lk_cons, lk_nil, subL_nil, subL_cons, upIds, AV.ids, AV.ids.idsL, AObj.ids, Hp.get_cons, get_nil, allCell, AV.cell, vInt, vBool, vStr, id, true_and, and_true, and_self, List.append_nil, List.nil_append, List.not_mem_nil, List.mem_cons, or_false, false_or, or_self, not_true_eq_false, not_false_eq_true, false_imp_iff, false_implies, List.map_nil, not_false_eq_true, List.contains_cons, List.contains_nil, Bool.or_false, Bool.false_or, Bool.true_or, Bool.or_true, Bool.and_true, Bool.true_and, implies_true, if_true, if_false, reduceCtorEq, Nat.reduceEqDiff, Nat.reduceBEq, Nat.reduceAdd, reduceIte, ↓reduceIte]
theorem fail_c : ∀ b ts s das sc0 res s', f_fail b ts s das = some (sc0, res, s') → sc0 → (∀ τ, res.rn τ = res) ∧ res.ids = [] ∧ HCalm Try.prog 33 (.ptr 10000 0 :: das.map .d) (rdH b ts s) res (rdH b ts s') := by
 intro b ts s das sc0 res s' h hs
 unfold f_fail at h
 split at h <;> cases h
 exact ⟨fun _ => rfl, rfl, known_r1.hcalmZ mixed (hids_rd b ts s [.v (.int .i64 _)]) (fail_body b ts s hs.1 _ hs.2)⟩
noncomputable def G_r2 : Gam := G_r1.addH 33 (F_obj 70 (rdF f_fail))
theorem known_r2 : Known Try.prog G_r2 := known_r1.addO (rd_calm fail_c)
theorem G_r2_at : (∀ h d a, G_r2 57 h d a = F_obj 70 (rdF f_at) h d a) ∧ (∀ h d a, G_r2 53 h d a = F_obj 70 (rdF f_is) h d a) ∧ (∀ h d a, G_r2 33 h d a = F_obj 70 (rdF f_fail) h d a) := ⟨fun _ _ _ => rfl, fun _ _ _ => rfl, fun _ _ _ => rfl⟩
theorem rIs_lt {ts : List Tk} {s : Rs} {k : Int} (h : rIs ts s k = true) : s.2.1 = 0 ∧ s.1 < ts.length ∧ (ts.getD s.1 (0, 0, 0)).1 = k := by
 unfold rIs at h
 simpa only [Bool.and_eq_true, decide_eq_true_eq] using h
theorem mark_body (b : List Int) (ts : List Tk) (s : Rs) (h : tksOk b ts) (k : Int) : HBodyZ Try.prog G_r2 (DRun Try.prog G_r2) 56 [.ptr 10000 0, vInt .i64 k] (rdH b ts s) (vInt .i64 (rMark b ts k s).1) (rdH b ts (rMark b ts k s).2) := by
 refine HBodyZ.of Try.func56 Try.ntmps56 (by kernel_rfl) rfl rfl rfl rfl ?_
 simp only [rdH, rdD, evZ, retZF, G_r2_at, F_obj, rdF, f_at, f_is, f_fail, num_iD, tkO_R, tk_at, tk_cells, List.length_map, List.map_cons, List.map_nil, Int.toNat_natCast, Int.reduceLE, Int.reduceLT, Int.reduceGT, Int.reduceGE, Int.reduceBEq, Int.reduceBNe, Int.reduceEq, Int.reduceToNat, Int.reduceSub, Int.reduceAdd, Int.reduceMul, Int.reducePow, Int.reduceNeg, goTG_val, goTG_new, goTG_up, goTG_none, goG_none, goG_new, goG_up, ne_eq, evK, evH, retHF, DRun_mk, runT_nil, runT_none, runT_guard, goT_val, goT_new, goT_store, goTH_true, goTH_false, evO, keys, Option.toList_some, Option.toList_none, nzL_nil, nzL_cons, nz_k, nz_sl, nz_nil, nz_agg, startL, evC, evV, goE_val, goE_new, goE_store, goH_true, goH_false, goG_val, lk_cons, lk_nil, lk_func, lk_int, lk_bool, lk_string, lk_slice, lk_agg, look_mk, St.effOf, eff, effCall, effBinC, isConst, effBin, effUn, effConv, effPick, effNil, effFold, fold1, effLoad, effStore, effFieldAddr, effField, fieldOf, sliceOf, effIndexAddr, effIndex, effLen, effExtract, effSlice, dats, bnd, effBuild, placesOf, effBuildSlice, effMakeSlice, effAppend, srcOf, fillA, chunk, seg, toD, toDs, put, eqAV, fieldsEq, leafEq, strip, unw, allB, selP_or, selP_and, tis, TyD.agg, AV.cells, AV.cell, allCell, vInt, vBool, vStr, subL_nil, subL_cons, upIds, AV.ids, AV.ids.idsL, AObj.ids, drops, Hp.get_cons, get_nil, retF, resL, one, fz, fz.fzL, List.map_cons, List.map_nil, List.nil_append, List.append_nil, List.cons_append, List.all_cons, List.all_nil, List.length_cons, List.length_nil, List.getElem?_cons_zero, List.getElem?_cons_succ, List.getD_cons_zero, List.getD_cons_succ, List.take_succ_cons, List.take_zero, List.drop_succ_cons, List.drop_zero, List.take_nil, List.drop_nil, List.contains_cons, List.contains_nil, Option.getD_some, Option.getD_none, Option.map_some, Option.map_none, if_true, if_false, true_and, and_true, and_self, or_self, or_false, false_or, false_and, and_false, reduceCtorEq, sel_and, sel_or, decide_eq_true_eq, Bool.and_eq_true, Bool.or_eq_true, Bool.and_true, Bool.true_and, Bool.or_false, Bool.false_or, Bool.true_or, Bool.or_true, Bool.not_true, Bool.not_false, Bool.false_eq_true, implies_true, not_false_eq_true, Nat.reduceLT, Nat.reduceEqDiff, Nat.reduceAdd, Nat.reduceMul, Nat.reduceMod, Nat.reduceLeDiff, Nat.reduceBEq, Nat.zero_add, Nat.add_zero, reduceIte, ↓reduceIte, List.not_mem_nil]
 refine ⟨⟨by omega, h⟩, ⟨by omega, h⟩, ?_⟩
 unfold rMark
 cases c : rIs ts s k with
 | false =>
  simp only [Bool.not_false, if_true]
  refine ⟨⟨by omega, h⟩, [], fun o => o, ?_⟩
  simp only [Bool.false_eq_true, if_false, drops, frA, frA.frL, List.cons_append, Mt_tup, Mt_agg, Mt_fn, forall_eq, forall_eq_or_imp, ne_eq, List.all_cons, List.all_nil, pr, Nat.reduceLeDiff, slR_nil, slR_cons, hpR_nil, hpR_cells, hpR_row, idsR_nil, idsR_cons, mtE_v, mtE_sl, mtE_nil, mtE_refl, mtE_row, mtE_born, mtE_ptr, mtE_rp, mtE_agg, mtE_tup, mtE_fn, mtE_ep, MtL_nil, MtL_cons, Mt_v, Mt_sl, Mt_nil, Mt_refl, Mt_row, Mt_born, Mt_ptr, MtO_cells, MtO_row, liveIds, distinct, Dat.v.injEq, Dat.sl.injEq, Value.int.injEq, Value.bool.injEq, Value.string.injEq, lk_cons, lk_nil, subL_nil, subL_cons, upIds, AV.ids, AV.ids.idsL, AObj.ids, Hp.get_cons, get_nil, allCell, AV.cell, vInt, vBool, vStr, id, true_and, and_true, and_self, List.append_nil, List.nil_append, List.not_mem_nil, List.mem_cons, or_false, false_or, or_self, not_true_eq_false, not_false_eq_true, false_imp_iff, false_implies, List.map_nil, not_false_eq_true, List.contains_cons, List.contains_nil, Bool.or_false, Bool.false_or, Bool.true_or, Bool.or_true, Bool.and_true, Bool.true_and, implies_true, if_true, if_false, reduceCtorEq, Nat.reduceEqDiff, Nat.reduceBEq, Nat.reduceAdd, reduceIte, ↓reduceIte]
 | true =>
  obtain ⟨q1, q2, q3⟩ := rIs_lt c
  have hn := h.2.2.1
  have e : IntKind.i64.wrap ((s.1 : Int) + 1) = ((s.1 + 1 : Nat) : Int) := by rw [w64 (by omega) (by omega)]; omega
  simp only [Bool.not_true, Bool.false_eq_true, if_false, e]
  refine ⟨[], fun o => o, ?_⟩
  simp only [if_true, drops, frA, frA.frL, List.cons_append, Mt_tup, Mt_agg, Mt_fn, forall_eq, forall_eq_or_imp, ne_eq, List.all_cons, List.all_nil, pr, Nat.reduceLeDiff, slR_nil, slR_cons, hpR_nil, hpR_cells, hpR_row, idsR_nil, idsR_cons, mtE_v, mtE_sl, mtE_nil, mtE_refl, mtE_row, mtE_born, mtE_ptr, mtE_rp, mtE_agg, mtE_tup, mtE_fn, mtE_ep, MtL_nil, MtL_cons, Mt_v, Mt_sl, Mt_nil, Mt_refl, Mt_row, Mt_born, Mt_ptr, MtO_cells, MtO_row, liveIds, distinct, Dat.v.injEq, Dat.sl.injEq, Value.int.injEq, Value.bool.injEq, Value.string.injEq, lk_cons, lk_nil, subL_nil, subL_cons, upIds, AV.ids, AV.ids.idsL, AObj.ids, Hp.get_cons, get_nil, allCell, AV.cell, vInt, vBool, vStr, id, true_and, and_true, and_self, List.append_nil, List.nil_append, List.not_mem_nil, List.mem_cons, or_false, false_or, or_self, not_true_eq_false, not_false_eq_true, false_imp_iff, false_implies, List.map_nil, not_false_eq_true, List.contains_cons, List.contains_nil, Bool.or_false, Bool.false_or, Bool.true_or, Bool.or_true, Bool.and_true, Bool.true_and, implies_true, if_true, if_false, reduceCtorEq, Nat.reduceEqDiff, Nat.reduceBEq, Nat.reduceAdd, reduceIte, ↓reduceIte]
theorem mark_c : ∀ b ts s das sc0 res s', f_mark b ts s das = some (sc0, res, s') → sc0 → (∀ τ, res.rn τ = res) ∧ res.ids = [] ∧ HCalm Try.prog 56 (.ptr 10000 0 :: das.map .d) (rdH b ts s) res (rdH b ts s') := by
 intro b ts s das sc0 res s' h hs
 unfold f_mark at h
 split at h <;> cases h
 exact ⟨fun _ => rfl, rfl, known_r2.hcalmZ mixed (hids_rd b ts s [.v (.int .i64 _)]) (mark_body b ts s hs _)⟩
noncomputable def G_r3 : Gam := G_r2.add 34 fun a => F_ju (NT.nz.nzL [.s 1] a)
theorem known_r3 : Known Try.prog G_r3 := known_r2.addC _ ju_calm
theorem G_r3_at : (∀ h d a, G_r3 57 h d a = F_obj 70 (rdF f_at) h d a) ∧ (∀ h d a, G_r3 53 h d a = F_obj 70 (rdF f_is) h d a) ∧ (∀ h d a, G_r3 33 h d a = F_obj 70 (rdF f_fail) h d a) ∧ (∀ h d a, G_r3 34 h d a = calmE (fun a => F_ju (NT.nz.nzL [.s 1] a)) h a) := ⟨fun _ _ _ => rfl, fun _ _ _ => rfl, fun _ _ _ => rfl, fun _ _ _ => rfl⟩
theorem tkB_take {b : List Int} {ts : List Tk} (h : tksOk b ts) (n : Nat) : (b.drop (ts.getD n (0, 0, 0)).2.1.toNat).take ((ts.getD n (0, 0, 0)).2.2.toNat - (ts.getD n (0, 0, 0)).2.1.toNat) = tkB b ts n := by
 have := tksOk_at h n
 unfold tkB Jlex.slice
 congr 1; omega
theorem tkB_ok {b : List Int} {ts : List Tk} (h : tksOk b ts) (n : Nat) : Bytes (tkB b ts n) ∧ (tkB b ts n).length ≤ 20000 := by
 unfold tkB Jlex.slice
 refine ⟨fun x hx => h.1 x (List.mem_of_mem_drop (List.mem_of_mem_take hx)), ?_⟩
 have := h.2.1
 rw [List.length_take, List.length_drop]; omega
theorem text_body (b : List Int) (ts : List Tk) (s : Rs) (h : tksOk b ts) : HBodyZ Try.prog G_r3 (DRun Try.prog G_r3) 54 [.ptr 10000 0] (rdH b ts s) (.agg ((jvD (rText b ts s).1).map .d)) (rdH b ts (rText b ts s).2) := by
 refine HBodyZ.of Try.func54 Try.ntmps54 (by kernel_rfl) rfl rfl rfl rfl ?_
 have nz1 : ∀ xs, (NT.s 1).nz (.d (.sl 1 xs)) = .d (.sl 1 xs) := fun xs => rfl
 have htk := tkB_take h s.1
 simp only [rdH, rdD, evZ, retZF, G_r3_at, F_obj, rdF, f_at, f_is, f_fail, calmE, F_ju, nz1, num_iD, tkO_R, tk_at, tk_cells, htk, ← List.map_drop, ← List.map_take, intsD, AV.flat, AV.flat.flatL, List.length_map, List.map_cons, List.map_nil, Int.toNat_natCast, Int.reduceLE, Int.reduceLT, Int.reduceGT, Int.reduceGE, Int.reduceBEq, Int.reduceBNe, Int.reduceEq, Int.reduceToNat, Int.reduceSub, Int.reduceAdd, Int.reduceMul, Int.reducePow, Int.reduceNeg, goTG_val, goTG_new, goTG_up, goTG_none, goG_none, goG_new, goG_up, ne_eq, evK, evH, retHF, DRun_mk, runT_nil, runT_none, runT_guard, goT_val, goT_new, goT_store, goTH_true, goTH_false, evO, keys, Option.toList_some, Option.toList_none, nzL_nil, nzL_cons, nz_k, nz_sl, nz_nil, nz_agg, startL, evC, evV, goE_val, goE_new, goE_store, goH_true, goH_false, goG_val, lk_cons, lk_nil, lk_func, lk_int, lk_bool, lk_string, lk_slice, lk_agg, look_mk, St.effOf, eff, effCall, effBinC, isConst, effBin, effUn, effConv, effPick, effNil, effFold, fold1, effLoad, effStore, effFieldAddr, effField, fieldOf, sliceOf, effIndexAddr, effIndex, effLen, effExtract, effSlice, dats, bnd, effBuild, placesOf, effBuildSlice, effMakeSlice, effAppend, srcOf, fillA, chunk, seg, toD, toDs, put, eqAV, fieldsEq, leafEq, strip, unw, allB, selP_or, selP_and, tis, TyD.agg, AV.cells, AV.cell, allCell, vInt, vBool, vStr, subL_nil, subL_cons, upIds, AV.ids, AV.ids.idsL, AObj.ids, drops, Hp.get_cons, get_nil, retF, resL, one, fz, fz.fzL, List.map_cons, List.map_nil, List.nil_append, List.append_nil, List.cons_append, List.all_cons, List.all_nil, List.length_cons, List.length_nil, List.getElem?_cons_zero, List.getElem?_cons_succ, List.getD_cons_zero, List.getD_cons_succ, List.take_succ_cons, List.take_zero, List.drop_succ_cons, List.drop_zero, List.take_nil, List.drop_nil, List.contains_cons, List.contains_nil, Option.getD_some, Option.getD_none, Option.map_some, Option.map_none, if_true, if_false, true_and, and_true, and_self, or_self, or_false, false_or, false_and, and_false, reduceCtorEq, sel_and, sel_or, decide_eq_true_eq, Bool.and_eq_true, Bool.or_eq_true, Bool.and_true, Bool.true_and, Bool.or_false, Bool.false_or, Bool.true_or, Bool.or_true, Bool.not_true, Bool.not_false, Bool.false_eq_true, implies_true, not_false_eq_true, Nat.reduceLT, Nat.reduceEqDiff, Nat.reduceAdd, Nat.reduceMul, Nat.reduceMod, Nat.reduceLeDiff, Nat.reduceBEq, Nat.zero_add, Nat.add_zero, reduceIte, ↓reduceIte, List.not_mem_nil]
 refine ⟨⟨by omega, h⟩, ?_⟩
 unfold rText
 have hs : ((s.1, s.2.1, s.2.2) : Rs) = s := rfl
 rw [hs]
 cases c : rIs ts s 7 with
 | false =>
  simp only [Bool.not_false, if_true]
  refine ⟨⟨by omega, h⟩, [], fun o => o, ?_⟩
  simp only [Bool.false_eq_true, if_false, jv0, jvD, jvDs, List.map_cons, List.map_nil, drops, frA, frA.frL, List.cons_append, Mt_tup, Mt_agg, Mt_fn, forall_eq, forall_eq_or_imp, ne_eq, List.all_cons, List.all_nil, pr, Nat.reduceLeDiff, slR_nil, slR_cons, hpR_nil, hpR_cells, hpR_row, idsR_nil, idsR_cons, mtE_v, mtE_sl, mtE_nil, mtE_refl, mtE_row, mtE_born, mtE_ptr, mtE_rp, mtE_agg, mtE_tup, mtE_fn, mtE_ep, MtL_nil, MtL_cons, Mt_v, Mt_sl, Mt_nil, Mt_refl, Mt_row, Mt_born, Mt_ptr, MtO_cells, MtO_row, liveIds, distinct, Dat.v.injEq, Dat.sl.injEq, Value.int.injEq, Value.bool.injEq, Value.string.injEq, lk_cons, lk_nil, subL_nil, subL_cons, upIds, AV.ids, AV.ids.idsL, AObj.ids, Hp.get_cons, get_nil, allCell, AV.cell, vInt, vBool, vStr, id, true_and, and_true, and_self, List.append_nil, List.nil_append, List.not_mem_nil, List.mem_cons, or_false, false_or, or_self, not_true_eq_false, not_false_eq_true, false_imp_iff, false_implies, List.map_nil, not_false_eq_true, List.contains_cons, List.contains_nil, Bool.or_false, Bool.false_or, Bool.true_or, Bool.or_true, Bool.and_true, Bool.true_and, implies_true, if_true, if_false, reduceCtorEq, Nat.reduceEqDiff, Nat.reduceBEq, Nat.reduceAdd, reduceIte, ↓reduceIte]
 | true =>
  obtain ⟨q1, q2, q3⟩ := rIs_lt c
  have hn := h.2.2.1
  have hk := tkB_ok h s.1
  have ht := tksOk_at h s.1
  have e : IntKind.i64.wrap ((s.1 : Int) + 1) = ((s.1 + 1 : Nat) : Int) := by rw [w64 (by omega) (by omega)]; omega
  simp only [Bool.not_true, Bool.false_eq_true, if_false, e]
  refine ⟨by omega, by kernel_rfl, ⟨ht.1, ht.2.1, ht.2.2.1⟩, ⟨hk.1, by omega⟩, by kernel_rfl, [], fun o => o, ?_⟩
  simp only [if_true, jvD, jvDs, List.map_cons, List.map_nil, drops, frA, frA.frL, List.cons_append, Mt_tup, Mt_agg, Mt_fn, forall_eq, forall_eq_or_imp, ne_eq, List.all_cons, List.all_nil, pr, Nat.reduceLeDiff, slR_nil, slR_cons, hpR_nil, hpR_cells, hpR_row, idsR_nil, idsR_cons, mtE_v, mtE_sl, mtE_nil, mtE_refl, mtE_row, mtE_born, mtE_ptr, mtE_rp, mtE_agg, mtE_tup, mtE_fn, mtE_ep, MtL_nil, MtL_cons, Mt_v, Mt_sl, Mt_nil, Mt_refl, Mt_row, Mt_born, Mt_ptr, MtO_cells, MtO_row, liveIds, distinct, Dat.v.injEq, Dat.sl.injEq, Value.int.injEq, Value.bool.injEq, Value.string.injEq, lk_cons, lk_nil, subL_nil, subL_cons, upIds, AV.ids, AV.ids.idsL, AObj.ids, Hp.get_cons, get_nil, allCell, AV.cell, vInt, vBool, vStr, id, true_and, and_true, and_self, List.append_nil, List.nil_append, List.not_mem_nil, List.mem_cons, or_false, false_or, or_self, not_true_eq_false, not_false_eq_true, false_imp_iff, false_implies, List.map_nil, not_false_eq_true, List.contains_cons, List.contains_nil, Bool.or_false, Bool.false_or, Bool.true_or, Bool.or_true, Bool.and_true, Bool.true_and, implies_true, if_true, if_false, reduceCtorEq, Nat.reduceEqDiff, Nat.reduceBEq, Nat.reduceAdd, reduceIte, ↓reduceIte]
theorem rn_ds (τ : Nat → Nat) (l : List Dat) : (AV.agg (l.map .d)).rn τ = .agg (l.map .d) := by rw [AV.rn, rnL_ds]
theorem text_c : ∀ b ts s das sc0 res s', f_text b ts s das = some (sc0, res, s') → sc0 → (∀ τ, res.rn τ = res) ∧ res.ids = [] ∧ HCalm Try.prog 54 (.ptr 10000 0 :: das.map .d) (rdH b ts s) res (rdH b ts s') := by
 intro b ts s das sc0 res s' h hs
 unfold f_text at h
 split at h <;> cases h
 exact ⟨fun τ => rn_ds τ _, map_d_ids _, known_r3.hcalmZ mixed (hids_rd b ts s []) (text_body b ts s hs)⟩
end Go.Proofs.Ytgbialeahdoelaa.Eng

end

section
namespace Go.Proofs.Ytgbialeahdoelaa.Eng
open Go Go.Proofs.Ytgbialeahdoelaa.Base
set_option maxRecDepth 100000
set_option linter.unusedSimpArgs false
set_option linter.unusedVariables false
def s0 : ByteArray := ⟨#[48]⟩
def s3 : ByteArray := ⟨#[51]⟩
theorem bt_0 : bt ⟨#[48]⟩ 0 = 48 := by decide +kernel
theorem bt_3 : bt ⟨#[51]⟩ 0 = 51 := by decide +kernel
def F_rd0 : List AV → Option (Prop × AV)
 | [.d (.v (.string s))] => some (s = s0, vBool true)
 | _ => none
theorem rd0_calm : ∀ args sc res, F_rd0 args = some (sc, res) → sc → Calm Try.prog 82 args res := by
 intro args sc res h hs
 unfold F_rd0 at h
 split at h <;> cases h
 subst hs
 refine (Known.none _).calm mixed rfl rfl ?_
 refine Body.of Try.func82 Try.ntmps82 (by kernel_rfl) rfl rfl rfl ?_
 simp only [s0, beq_self_eq_true, Int.reduceLE, Int.reduceLT, Int.reduceGT, Int.reduceGE, Int.reduceBEq, Int.reduceBNe, Int.reduceEq, Int.reduceToNat, Int.reduceSub, Int.reduceAdd, Int.reduceMul, Int.reducePow, Int.reduceNeg, goTG_val, goTG_new, goTG_up, goTG_none, goG_none, goG_new, goG_up, ne_eq, evK, evH, retHF, DRun_mk, runT_nil, runT_none, runT_guard, goT_val, goT_new, goT_store, goTH_true, goTH_false, evO, keys, Option.toList_some, Option.toList_none, nzL_nil, nzL_cons, nz_k, nz_sl, nz_nil, nz_agg, startL, evC, evV, goE_val, goE_new, goE_store, goH_true, goH_false, goG_val, lk_cons, lk_nil, lk_func, lk_int, lk_bool, lk_string, lk_slice, lk_agg, look_mk, St.effOf, eff, effCall, effBinC, isConst, effBin, effUn, effConv, effPick, effNil, effFold, fold1, effLoad, effStore, effFieldAddr, effField, fieldOf, sliceOf, effIndexAddr, effIndex, effLen, effExtract, effSlice, dats, bnd, effBuild, placesOf, effBuildSlice, effMakeSlice, effAppend, srcOf, fillA, chunk, seg, toD, toDs, put, eqAV, fieldsEq, leafEq, strip, unw, allB, selP_or, selP_and, tis, TyD.agg, AV.cells, AV.cell, allCell, vInt, vBool, vStr, subL_nil, subL_cons, upIds, AV.ids, AV.ids.idsL, AObj.ids, drops, Hp.get_cons, get_nil, retF, resL, one, fz, fz.fzL, List.map_cons, List.map_nil, List.nil_append, List.append_nil, List.cons_append, List.all_cons, List.all_nil, List.length_cons, List.length_nil, List.getElem?_cons_zero, List.getElem?_cons_succ, List.getD_cons_zero, List.getD_cons_succ, List.take_succ_cons, List.take_zero, List.drop_succ_cons, List.drop_zero, List.take_nil, List.drop_nil, List.contains_cons, List.contains_nil, Option.getD_some, Option.getD_none, Option.map_some, Option.map_none, if_true, if_false, true_and, and_true, and_self, or_self, or_false, false_or, false_and, and_false, reduceCtorEq, sel_and, sel_or, decide_eq_true_eq, Bool.and_eq_true, Bool.or_eq_true, Bool.and_true, Bool.true_and, Bool.or_false, Bool.false_or, Bool.true_or, Bool.or_true, Bool.not_true, Bool.not_false, Bool.false_eq_true, implies_true, not_false_eq_true, Nat.reduceLT, Nat.reduceEqDiff, Nat.reduceAdd, Nat.reduceMul, Nat.reduceMod, Nat.reduceLeDiff, Nat.reduceBEq, Nat.zero_add, Nat.add_zero, reduceIte, ↓reduceIte, List.not_mem_nil]
 exact Sub.refl _
def F_sg0 : List AV → Option (Prop × AV)
 | [.d (.v (.string s))] => some (s = s0, .tup [vBool false, vStr s0])
 | _ => none
theorem sg0_calm : ∀ args sc res, F_sg0 args = some (sc, res) → sc → Calm Try.prog 83 args res := by
 intro args sc res h hs
 unfold F_sg0 at h
 split at h <;> cases h
 subst hs
 refine (Known.none _).calm mixed rfl rfl ?_
 refine Body.of Try.func83 Try.ntmps83 (by kernel_rfl) rfl rfl rfl ?_
 simp only [s0, bt_0, Int.reduceLE, Int.reduceLT, Int.reduceGT, Int.reduceGE, Int.reduceBEq, Int.reduceBNe, Int.reduceEq, Int.reduceToNat, Int.reduceSub, Int.reduceAdd, Int.reduceMul, Int.reducePow, Int.reduceNeg, goTG_val, goTG_new, goTG_up, goTG_none, goG_none, goG_new, goG_up, ne_eq, evK, evH, retHF, DRun_mk, runT_nil, runT_none, runT_guard, goT_val, goT_new, goT_store, goTH_true, goTH_false, evO, keys, Option.toList_some, Option.toList_none, nzL_nil, nzL_cons, nz_k, nz_sl, nz_nil, nz_agg, startL, evC, evV, goE_val, goE_new, goE_store, goH_true, goH_false, goG_val, lk_cons, lk_nil, lk_func, lk_int, lk_bool, lk_string, lk_slice, lk_agg, look_mk, St.effOf, eff, effCall, effBinC, isConst, effBin, effUn, effConv, effPick, effNil, effFold, fold1, effLoad, effStore, effFieldAddr, effField, fieldOf, sliceOf, effIndexAddr, effIndex, effLen, effExtract, effSlice, dats, bnd, effBuild, placesOf, effBuildSlice, effMakeSlice, effAppend, srcOf, fillA, chunk, seg, toD, toDs, put, eqAV, fieldsEq, leafEq, strip, unw, allB, selP_or, selP_and, tis, TyD.agg, AV.cells, AV.cell, allCell, vInt, vBool, vStr, subL_nil, subL_cons, upIds, AV.ids, AV.ids.idsL, AObj.ids, drops, Hp.get_cons, get_nil, retF, resL, one, fz, fz.fzL, List.map_cons, List.map_nil, List.nil_append, List.append_nil, List.cons_append, List.all_cons, List.all_nil, List.length_cons, List.length_nil, List.getElem?_cons_zero, List.getElem?_cons_succ, List.getD_cons_zero, List.getD_cons_succ, List.take_succ_cons, List.take_zero, List.drop_succ_cons, List.drop_zero, List.take_nil, List.drop_nil, List.contains_cons, List.contains_nil, Option.getD_some, Option.getD_none, Option.map_some, Option.map_none, if_true, if_false, true_and, and_true, and_self, or_self, or_false, false_or, false_and, and_false, reduceCtorEq, sel_and, sel_or, decide_eq_true_eq, Bool.and_eq_true, Bool.or_eq_true, Bool.and_true, Bool.true_and, Bool.or_false, Bool.false_or, Bool.true_or, Bool.or_true, Bool.not_true, Bool.not_false, Bool.false_eq_true, implies_true, not_false_eq_true, Nat.reduceLT, Nat.reduceEqDiff, Nat.reduceAdd, Nat.reduceMul, Nat.reduceMod, Nat.reduceLeDiff, Nat.reduceBEq, Nat.zero_add, Nat.add_zero, reduceIte, ↓reduceIte, List.not_mem_nil]
 exact ⟨by decide, Sub.refl _⟩
def F_dg0 : List AV → Option (Prop × AV)
 | [.d (.v (.string s)), .d (.v (.int .i64 i))] => some (s = s0 ∧ i = 0, vInt .i64 0)
 | _ => none
theorem dg0_calm : ∀ args sc res, F_dg0 args = some (sc, res) → sc → Calm Try.prog 88 args res := by
 intro args sc res h hs
 unfold F_dg0 at h
 split at h <;> cases h
 obtain ⟨rfl, rfl⟩ := hs
 refine (Known.none _).calm mixed rfl rfl ?_
 refine Body.of Try.func88 Try.ntmps88 (by kernel_rfl) rfl rfl rfl ?_
 have z : ((ByteArray.size ⟨#[48]⟩ : Nat) : Int) = 1 := rfl
 have w0 : IntKind.i64.wrap 0 = 0 := rfl
 simp only [s0, z, w0, bt_0, Int.reduceLE, Int.reduceLT, Int.reduceGT, Int.reduceGE, Int.reduceBEq, Int.reduceBNe, Int.reduceEq, Int.reduceToNat, Int.reduceSub, Int.reduceAdd, Int.reduceMul, Int.reducePow, Int.reduceNeg, goTG_val, goTG_new, goTG_up, goTG_none, goG_none, goG_new, goG_up, ne_eq, evK, evH, retHF, DRun_mk, runT_nil, runT_none, runT_guard, goT_val, goT_new, goT_store, goTH_true, goTH_false, evO, keys, Option.toList_some, Option.toList_none, nzL_nil, nzL_cons, nz_k, nz_sl, nz_nil, nz_agg, startL, evC, evV, goE_val, goE_new, goE_store, goH_true, goH_false, goG_val, lk_cons, lk_nil, lk_func, lk_int, lk_bool, lk_string, lk_slice, lk_agg, look_mk, St.effOf, eff, effCall, effBinC, isConst, effBin, effUn, effConv, effPick, effNil, effFold, fold1, effLoad, effStore, effFieldAddr, effField, fieldOf, sliceOf, effIndexAddr, effIndex, effLen, effExtract, effSlice, dats, bnd, effBuild, placesOf, effBuildSlice, effMakeSlice, effAppend, srcOf, fillA, chunk, seg, toD, toDs, put, eqAV, fieldsEq, leafEq, strip, unw, allB, selP_or, selP_and, tis, TyD.agg, AV.cells, AV.cell, allCell, vInt, vBool, vStr, subL_nil, subL_cons, upIds, AV.ids, AV.ids.idsL, AObj.ids, drops, Hp.get_cons, get_nil, retF, resL, one, fz, fz.fzL, List.map_cons, List.map_nil, List.nil_append, List.append_nil, List.cons_append, List.all_cons, List.all_nil, List.length_cons, List.length_nil, List.getElem?_cons_zero, List.getElem?_cons_succ, List.getD_cons_zero, List.getD_cons_succ, List.take_succ_cons, List.take_zero, List.drop_succ_cons, List.drop_zero, List.take_nil, List.drop_nil, List.contains_cons, List.contains_nil, Option.getD_some, Option.getD_none, Option.map_some, Option.map_none, if_true, if_false, true_and, and_true, and_self, or_self, or_false, false_or, false_and, and_false, reduceCtorEq, sel_and, sel_or, decide_eq_true_eq, Bool.and_eq_true, Bool.or_eq_true, Bool.and_true, Bool.true_and, Bool.or_false, Bool.false_or, Bool.true_or, Bool.or_true, Bool.not_true, Bool.not_false, Bool.false_eq_true, implies_true, not_false_eq_true, Nat.reduceLT, Nat.reduceEqDiff, Nat.reduceAdd, Nat.reduceMul, Nat.reduceMod, Nat.reduceLeDiff, Nat.reduceBEq, Nat.zero_add, Nat.add_zero, reduceIte, ↓reduceIte, List.not_mem_nil]
 rw [show IntKind.u8.wrap 0 = 0 from rfl, w0]
def F_dc0 : List AV → Option (Prop × AV)
 | [.d (.v (.int .i64 i))] => some (i = 0, vStr s0)
 | _ => none
theorem dc0_calm : ∀ args sc res, F_dc0 args = some (sc, res) → sc → Calm Try.prog 74 args res := by
 intro args sc res h hs
 unfold F_dc0 at h
 split at h <;> cases h
 subst hs
 refine (Known.none _).calm mixed rfl rfl ?_
 refine Body.of Try.func74 Try.ntmps74 (by kernel_rfl) rfl rfl rfl ?_
 have w0 : IntKind.i64.wrap 0 = 0 := rfl
 have w1 : IntKind.i64.wrap 1 = 1 := rfl
 simp only [w0, w1, Int.reduceLE, Int.reduceLT, Int.reduceGT, Int.reduceGE, Int.reduceBEq, Int.reduceBNe, Int.reduceEq, Int.reduceToNat, Int.reduceSub, Int.reduceAdd, Int.reduceMul, Int.reducePow, Int.reduceNeg, goTG_val, goTG_new, goTG_up, goTG_none, goG_none, goG_new, goG_up, ne_eq, evK, evH, retHF, DRun_mk, runT_nil, runT_none, runT_guard, goT_val, goT_new, goT_store, goTH_true, goTH_false, evO, keys, Option.toList_some, Option.toList_none, nzL_nil, nzL_cons, nz_k, nz_sl, nz_nil, nz_agg, startL, evC, evV, goE_val, goE_new, goE_store, goH_true, goH_false, goG_val, lk_cons, lk_nil, lk_func, lk_int, lk_bool, lk_string, lk_slice, lk_agg, look_mk, St.effOf, eff, effCall, effBinC, isConst, effBin, effUn, effConv, effPick, effNil, effFold, fold1, effLoad, effStore, effFieldAddr, effField, fieldOf, sliceOf, effIndexAddr, effIndex, effLen, effExtract, effSlice, dats, bnd, effBuild, placesOf, effBuildSlice, effMakeSlice, effAppend, srcOf, fillA, chunk, seg, toD, toDs, put, eqAV, fieldsEq, leafEq, strip, unw, allB, selP_or, selP_and, tis, TyD.agg, AV.cells, AV.cell, allCell, vInt, vBool, vStr, subL_nil, subL_cons, upIds, AV.ids, AV.ids.idsL, AObj.ids, drops, Hp.get_cons, get_nil, retF, resL, one, fz, fz.fzL, List.map_cons, List.map_nil, List.nil_append, List.append_nil, List.cons_append, List.all_cons, List.all_nil, List.length_cons, List.length_nil, List.getElem?_cons_zero, List.getElem?_cons_succ, List.getD_cons_zero, List.getD_cons_succ, List.take_succ_cons, List.take_zero, List.drop_succ_cons, List.drop_zero, List.take_nil, List.drop_nil, List.contains_cons, List.contains_nil, Option.getD_some, Option.getD_none, Option.map_some, Option.map_none, if_true, if_false, true_and, and_true, and_self, or_self, or_false, false_or, false_and, and_false, reduceCtorEq, sel_and, sel_or, decide_eq_true_eq, Bool.and_eq_true, Bool.or_eq_true, Bool.and_true, Bool.true_and, Bool.or_false, Bool.false_or, Bool.true_or, Bool.or_true, Bool.not_true, Bool.not_false, Bool.false_eq_true, implies_true, not_false_eq_true, Nat.reduceLT, Nat.reduceEqDiff, Nat.reduceAdd, Nat.reduceMul, Nat.reduceMod, Nat.reduceLeDiff, Nat.reduceBEq, Nat.zero_add, Nat.add_zero, reduceIte, ↓reduceIte, List.not_mem_nil]
 exact ⟨by decide +kernel, Sub.eq (congrArg (fun s => AV.d (Dat.v (Value.string s))) (by decide +kernel))⟩
def F_st0 : List AV → Option (Prop × AV)
 | [.d (.v (.string s))] => some (s.size ≤ 1, vStr s)
 | _ => none
theorem st0_calm : ∀ args sc res, F_st0 args = some (sc, res) → sc → Calm Try.prog 72 args res := by
 intro args sc res h hs
 unfold F_st0 at h
 split at h <;> cases h
 rename_i s
 refine (Known.none _).calm mixed rfl rfl ?_
 refine Body.of Try.func72 Try.ntmps72 (by kernel_rfl) rfl rfl rfl ?_
 simp only [Int.reduceLE, Int.reduceLT, Int.reduceGT, Int.reduceGE, Int.reduceBEq, Int.reduceBNe, Int.reduceEq, Int.reduceToNat, Int.reduceSub, Int.reduceAdd, Int.reduceMul, Int.reducePow, Int.reduceNeg, goTG_val, goTG_new, goTG_up, goTG_none, goG_none, goG_new, goG_up, ne_eq, evK, evH, retHF, DRun_mk, runT_nil, runT_none, runT_guard, goT_val, goT_new, goT_store, goTH_true, goTH_false, evO, keys, Option.toList_some, Option.toList_none, nzL_nil, nzL_cons, nz_k, nz_sl, nz_nil, nz_agg, startL, evC, evV, goE_val, goE_new, goE_store, goH_true, goH_false, goG_val, lk_cons, lk_nil, lk_func, lk_int, lk_bool, lk_string, lk_slice, lk_agg, look_mk, St.effOf, eff, effCall, effBinC, isConst, effBin, effUn, effConv, effPick, effNil, effFold, fold1, effLoad, effStore, effFieldAddr, effField, fieldOf, sliceOf, effIndexAddr, effIndex, effLen, effExtract, effSlice, dats, bnd, effBuild, placesOf, effBuildSlice, effMakeSlice, effAppend, srcOf, fillA, chunk, seg, toD, toDs, put, eqAV, fieldsEq, leafEq, strip, unw, allB, selP_or, selP_and, tis, TyD.agg, AV.cells, AV.cell, allCell, vInt, vBool, vStr, subL_nil, subL_cons, upIds, AV.ids, AV.ids.idsL, AObj.ids, drops, Hp.get_cons, get_nil, retF, resL, one, fz, fz.fzL, List.map_cons, List.map_nil, List.nil_append, List.append_nil, List.cons_append, List.all_cons, List.all_nil, List.length_cons, List.length_nil, List.getElem?_cons_zero, List.getElem?_cons_succ, List.getD_cons_zero, List.getD_cons_succ, List.take_succ_cons, List.take_zero, List.drop_succ_cons, List.drop_zero, List.take_nil, List.drop_nil, List.contains_cons, List.contains_nil, Option.getD_some, Option.getD_none, Option.map_some, Option.map_none, if_true, if_false, true_and, and_true, and_self, or_self, or_false, false_or, false_and, and_false, reduceCtorEq, sel_and, sel_or, decide_eq_true_eq, Bool.and_eq_true, Bool.or_eq_true, Bool.and_true, Bool.true_and, Bool.or_false, Bool.false_or, Bool.true_or, Bool.or_true, Bool.not_true, Bool.not_false, Bool.false_eq_true, implies_true, not_false_eq_true, Nat.reduceLT, Nat.reduceEqDiff, Nat.reduceAdd, Nat.reduceMul, Nat.reduceMod, Nat.reduceLeDiff, Nat.reduceBEq, Nat.zero_add, Nat.add_zero, reduceIte, ↓reduceIte, List.not_mem_nil]
 refine wpc_loop (fun _ : Unit => ⟨14, [], [(0, vStr s)], []⟩) (fun _ => True) (fun _ => 0) () trivial ?_ ?_
 ·refine Le.of id [] ?_
  simp only [Mt_tup, Mt_agg, Mt_fn, forall_eq, forall_eq_or_imp, ne_eq, List.all_cons, List.all_nil, pr, Nat.reduceLeDiff, slR_nil, slR_cons, hpR_nil, hpR_cells, hpR_row, idsR_nil, idsR_cons, mtE_v, mtE_sl, mtE_nil, mtE_refl, mtE_row, mtE_born, mtE_ptr, mtE_rp, mtE_agg, mtE_tup, mtE_fn, mtE_ep, MtL_nil, MtL_cons, Mt_v, Mt_sl, Mt_nil, Mt_refl, Mt_row, Mt_born, Mt_ptr, MtO_cells, MtO_row, liveIds, distinct, Dat.v.injEq, Dat.sl.injEq, Value.int.injEq, Value.bool.injEq, Value.string.injEq, lk_cons, lk_nil, subL_nil, subL_cons, upIds, AV.ids, AV.ids.idsL, AObj.ids, Hp.get_cons, get_nil, allCell, AV.cell, vInt, vBool, vStr, id, true_and, and_true, and_self, List.append_nil, List.nil_append, List.not_mem_nil, List.mem_cons, or_false, false_or, or_self, not_true_eq_false, not_false_eq_true, false_imp_iff, false_implies, List.map_nil, not_false_eq_true, List.contains_cons, List.contains_nil, Bool.or_false, Bool.false_or, Bool.true_or, Bool.or_true, Bool.and_true, Bool.true_and, implies_true, if_true, if_false, reduceCtorEq, Nat.reduceEqDiff, Nat.reduceBEq, Nat.reduceAdd, reduceIte, ↓reduceIte]
 ·rintro ⟨⟩ -
  simp only [Int.reduceLE, Int.reduceLT, Int.reduceGT, Int.reduceGE, Int.reduceBEq, Int.reduceBNe, Int.reduceEq, Int.reduceToNat, Int.reduceSub, Int.reduceAdd, Int.reduceMul, Int.reducePow, Int.reduceNeg, goTG_val, goTG_new, goTG_up, goTG_none, goG_none, goG_new, goG_up, ne_eq, evK, evH, retHF, DRun_mk, runT_nil, runT_none, runT_guard, goT_val, goT_new, goT_store, goTH_true, goTH_false, evO, keys, Option.toList_some, Option.toList_none, nzL_nil, nzL_cons, nz_k, nz_sl, nz_nil, nz_agg, startL, evC, evV, goE_val, goE_new, goE_store, goH_true, goH_false, goG_val, lk_cons, lk_nil, lk_func, lk_int, lk_bool, lk_string, lk_slice, lk_agg, look_mk, St.effOf, eff, effCall, effBinC, isConst, effBin, effUn, effConv, effPick, effNil, effFold, fold1, effLoad, effStore, effFieldAddr, effField, fieldOf, sliceOf, effIndexAddr, effIndex, effLen, effExtract, effSlice, dats, bnd, effBuild, placesOf, effBuildSlice, effMakeSlice, effAppend, srcOf, fillA, chunk, seg, toD, toDs, put, eqAV, fieldsEq, leafEq, strip, unw, allB, selP_or, selP_and, tis, TyD.agg, AV.cells, AV.cell, allCell, vInt, vBool, vStr, subL_nil, subL_cons, upIds, AV.ids, AV.ids.idsL, AObj.ids, drops, Hp.get_cons, get_nil, retF, resL, one, fz, fz.fzL, List.map_cons, List.map_nil, List.nil_append, List.append_nil, List.cons_append, List.all_cons, List.all_nil, List.length_cons, List.length_nil, List.getElem?_cons_zero, List.getElem?_cons_succ, List.getD_cons_zero, List.getD_cons_succ, List.take_succ_cons, List.take_zero, List.drop_succ_cons, List.drop_zero, List.take_nil, List.drop_nil, List.contains_cons, List.contains_nil, Option.getD_some, Option.getD_none, Option.map_some, Option.map_none, if_true, if_false, true_and, and_true, and_self, or_self, or_false, false_or, false_and, and_false, reduceCtorEq, sel_and, sel_or, decide_eq_true_eq, Bool.and_eq_true, Bool.or_eq_true, Bool.and_true, Bool.true_and, Bool.or_false, Bool.false_or, Bool.true_or, Bool.or_true, Bool.not_true, Bool.not_false, Bool.false_eq_true, implies_true, not_false_eq_true, Nat.reduceLT, Nat.reduceEqDiff, Nat.reduceAdd, Nat.reduceMul, Nat.reduceMod, Nat.reduceLeDiff, Nat.reduceBEq, Nat.zero_add, Nat.add_zero, reduceIte, ↓reduceIte, List.not_mem_nil]
  refine ⟨fun h => by omega, ?_⟩
  rw [if_neg (fun h => by omega)]
noncomputable def G_rk : Gam := (Gam.none.add 88 fun a => F_dg0 (NT.nz.nzL [] a))
theorem known_G_rk : Known Try.prog G_rk := (Known.none _).addC _ dg0_calm
theorem G_rk_at : (∀ h d a, G_rk 88 h d a = calmE (fun a => F_dg0 (NT.nz.nzL [] a)) h a) := fun _ _ _ => rfl
theorem rk_body : Body Try.prog G_rk (DRun Try.prog G_rk) 84 [vStr s0, vStr s0, vBool false] (vStr s0) := by
 refine Body.of Try.func84 Try.ntmps84 (by kernel_rfl) rfl rfl rfl ?_
 simp only [s0, G_rk_at, calmE, F_dg0, AV.flat, AV.flat.flatL, Int.reduceLE, Int.reduceLT, Int.reduceGT, Int.reduceGE, Int.reduceBEq, Int.reduceBNe, Int.reduceEq, Int.reduceToNat, Int.reduceSub, Int.reduceAdd, Int.reduceMul, Int.reducePow, Int.reduceNeg, goTG_val, goTG_new, goTG_up, goTG_none, goG_none, goG_new, goG_up, ne_eq, evK, evH, retHF, DRun_mk, runT_nil, runT_none, runT_guard, goT_val, goT_new, goT_store, goTH_true, goTH_false, evO, keys, Option.toList_some, Option.toList_none, nzL_nil, nzL_cons, nz_k, nz_sl, nz_nil, nz_agg, startL, evC, evV, goE_val, goE_new, goE_store, goH_true, goH_false, goG_val, lk_cons, lk_nil, lk_func, lk_int, lk_bool, lk_string, lk_slice, lk_agg, look_mk, St.effOf, eff, effCall, effBinC, isConst, effBin, effUn, effConv, effPick, effNil, effFold, fold1, effLoad, effStore, effFieldAddr, effField, fieldOf, sliceOf, effIndexAddr, effIndex, effLen, effExtract, effSlice, dats, bnd, effBuild, placesOf, effBuildSlice, effMakeSlice, effAppend, srcOf, fillA, chunk, seg, toD, toDs, put, eqAV, fieldsEq, leafEq, strip, unw, allB, selP_or, selP_and, tis, TyD.agg, AV.cells, AV.cell, allCell, vInt, vBool, vStr, subL_nil, subL_cons, upIds, AV.ids, AV.ids.idsL, AObj.ids, drops, Hp.get_cons, get_nil, retF, resL, one, fz, fz.fzL, List.map_cons, List.map_nil, List.nil_append, List.append_nil, List.cons_append, List.all_cons, List.all_nil, List.length_cons, List.length_nil, List.getElem?_cons_zero, List.getElem?_cons_succ, List.getD_cons_zero, List.getD_cons_succ, List.take_succ_cons, List.take_zero, List.drop_succ_cons, List.drop_zero, List.take_nil, List.drop_nil, List.contains_cons, List.contains_nil, Option.getD_some, Option.getD_none, Option.map_some, Option.map_none, if_true, if_false, true_and, and_true, and_self, or_self, or_false, false_or, false_and, and_false, reduceCtorEq, sel_and, sel_or, decide_eq_true_eq, Bool.and_eq_true, Bool.or_eq_true, Bool.and_true, Bool.true_and, Bool.or_false, Bool.false_or, Bool.true_or, Bool.or_true, Bool.not_true, Bool.not_false, Bool.false_eq_true, implies_true, not_false_eq_true, Nat.reduceLT, Nat.reduceEqDiff, Nat.reduceAdd, Nat.reduceMul, Nat.reduceMod, Nat.reduceLeDiff, Nat.reduceBEq, Nat.zero_add, Nat.add_zero, reduceIte, ↓reduceIte, List.not_mem_nil]
 have z : ((ByteArray.size ⟨#[48]⟩ : Nat) : Int) = 1 := rfl
 have w1 : IntKind.i64.wrap 1 = 1 := rfl
 have w0 : IntKind.i64.wrap 0 = 0 := rfl
 have v0 : IntKind.u8.wrap 0 = 0 := rfl
 have v48 : IntKind.u8.wrap 48 = 48 := rfl
 have wm : IntKind.i64.wrap (-1) = -1 := rfl
 refine wpc_loop (fun j : Nat => ⟨92, [100], [(0, vStr s0), (1, vStr s0), (2, vBool false), (7, .row 100 j), (8, vInt .i64 0), (9, vInt .i64 j)], [(100, some (.row 5 1 (List.replicate j (iD .u8 48))))]⟩) (fun j => j ≤ 1) (fun j => 1 - j) 0 (by omega) ?_ ?_
 ·refine Le.of id [100] ?_
  simp only [s0, List.replicate_zero, Mt_tup, Mt_agg, Mt_fn, forall_eq, forall_eq_or_imp, ne_eq, List.all_cons, List.all_nil, pr, Nat.reduceLeDiff, slR_nil, slR_cons, hpR_nil, hpR_cells, hpR_row, idsR_nil, idsR_cons, mtE_v, mtE_sl, mtE_nil, mtE_refl, mtE_row, mtE_born, mtE_ptr, mtE_rp, mtE_agg, mtE_tup, mtE_fn, mtE_ep, MtL_nil, MtL_cons, Mt_v, Mt_sl, Mt_nil, Mt_refl, Mt_row, Mt_born, Mt_ptr, MtO_cells, MtO_row, liveIds, distinct, Dat.v.injEq, Dat.sl.injEq, Value.int.injEq, Value.bool.injEq, Value.string.injEq, lk_cons, lk_nil, subL_nil, subL_cons, upIds, AV.ids, AV.ids.idsL, AObj.ids, Hp.get_cons, get_nil, allCell, AV.cell, vInt, vBool, vStr, id, true_and, and_true, and_self, List.append_nil, List.nil_append, List.not_mem_nil, List.mem_cons, or_false, false_or, or_self, not_true_eq_false, not_false_eq_true, false_imp_iff, false_implies, List.map_nil, not_false_eq_true, List.contains_cons, List.contains_nil, Bool.or_false, Bool.false_or, Bool.true_or, Bool.or_true, Bool.and_true, Bool.true_and, implies_true, if_true, if_false, reduceCtorEq, Nat.reduceEqDiff, Nat.reduceBEq, Nat.reduceAdd, reduceIte, ↓reduceIte]
  rfl
 ·intro j hj
  obtain rfl | rfl : j = 0 ∨ j = 1 := by omega
  ·simp only [s0, z, w0, w1, v0, v48, wm, iD, G_rk_at, calmE, F_dg0, Int.ofNat_zero, Int.cast_ofNat_Int, AV.flat, AV.flat.flatL, List.replicate_zero, List.replicate_succ, Int.reduceLE, Int.reduceLT, Int.reduceGT, Int.reduceGE, Int.reduceBEq, Int.reduceBNe, Int.reduceEq, Int.reduceToNat, Int.reduceSub, Int.reduceAdd, Int.reduceMul, Int.reducePow, Int.reduceNeg, goTG_val, goTG_new, goTG_up, goTG_none, goG_none, goG_new, goG_up, ne_eq, evK, evH, retHF, DRun_mk, runT_nil, runT_none, runT_guard, goT_val, goT_new, goT_store, goTH_true, goTH_false, evO, keys, Option.toList_some, Option.toList_none, nzL_nil, nzL_cons, nz_k, nz_sl, nz_nil, nz_agg, startL, evC, evV, goE_val, goE_new, goE_store, goH_true, goH_false, goG_val, lk_cons, lk_nil, lk_func, lk_int, lk_bool, lk_string, lk_slice, lk_agg, look_mk, St.effOf, eff, effCall, effBinC, isConst, effBin, effUn, effConv, effPick, effNil, effFold, fold1, effLoad, effStore, effFieldAddr, effField, fieldOf, sliceOf, effIndexAddr, effIndex, effLen, effExtract, effSlice, dats, bnd, effBuild, placesOf, effBuildSlice, effMakeSlice, effAppend, srcOf, fillA, chunk, seg, toD, toDs, put, eqAV, fieldsEq, leafEq, strip, unw, allB, selP_or, selP_and, tis, TyD.agg, AV.cells, AV.cell, allCell, vInt, vBool, vStr, subL_nil, subL_cons, upIds, AV.ids, AV.ids.idsL, AObj.ids, drops, Hp.get_cons, get_nil, retF, resL, one, fz, fz.fzL, List.map_cons, List.map_nil, List.nil_append, List.append_nil, List.cons_append, List.all_cons, List.all_nil, List.length_cons, List.length_nil, List.getElem?_cons_zero, List.getElem?_cons_succ, List.getD_cons_zero, List.getD_cons_succ, List.take_succ_cons, List.take_zero, List.drop_succ_cons, List.drop_zero, List.take_nil, List.drop_nil, List.contains_cons, List.contains_nil, Option.getD_some, Option.getD_none, Option.map_some, Option.map_none, if_true, if_false, true_and, and_true, and_self, or_self, or_false, false_or, false_and, and_false, reduceCtorEq, sel_and, sel_or, decide_eq_true_eq, Bool.and_eq_true, Bool.or_eq_true, Bool.and_true, Bool.true_and, Bool.or_false, Bool.false_or, Bool.true_or, Bool.or_true, Bool.not_true, Bool.not_false, Bool.false_eq_true, implies_true, not_false_eq_true, Nat.reduceLT, Nat.reduceEqDiff, Nat.reduceAdd, Nat.reduceMul, Nat.reduceMod, Nat.reduceLeDiff, Nat.reduceBEq, Nat.zero_add, Nat.add_zero, reduceIte, ↓reduceIte, List.not_mem_nil]
   refine ⟨1, by omega, by omega, Le.of (fun _ => 62) [] ?_⟩
   simp only [s0, iD, List.replicate_zero, List.replicate_succ, Mt_tup, Mt_agg, Mt_fn, forall_eq, forall_eq_or_imp, ne_eq, List.all_cons, List.all_nil, pr, Nat.reduceLeDiff, slR_nil, slR_cons, hpR_nil, hpR_cells, hpR_row, idsR_nil, idsR_cons, mtE_v, mtE_sl, mtE_nil, mtE_refl, mtE_row, mtE_born, mtE_ptr, mtE_rp, mtE_agg, mtE_tup, mtE_fn, mtE_ep, MtL_nil, MtL_cons, Mt_v, Mt_sl, Mt_nil, Mt_refl, Mt_row, Mt_born, Mt_ptr, MtO_cells, MtO_row, liveIds, distinct, Dat.v.injEq, Dat.sl.injEq, Value.int.injEq, Value.bool.injEq, Value.string.injEq, lk_cons, lk_nil, subL_nil, subL_cons, upIds, AV.ids, AV.ids.idsL, AObj.ids, Hp.get_cons, get_nil, allCell, AV.cell, vInt, vBool, vStr, id, true_and, and_true, and_self, List.append_nil, List.nil_append, List.not_mem_nil, List.mem_cons, or_false, false_or, or_self, not_true_eq_false, not_false_eq_true, false_imp_iff, false_implies, List.map_nil, not_false_eq_true, List.contains_cons, List.contains_nil, Bool.or_false, Bool.false_or, Bool.true_or, Bool.or_true, Bool.and_true, Bool.true_and, implies_true, if_true, if_false, reduceCtorEq, Nat.reduceEqDiff, Nat.reduceBEq, Nat.reduceAdd, reduceIte, ↓reduceIte]
   rfl
  ·simp only [s0, z, w0, w1, v0, v48, wm, iD, G_rk_at, calmE, F_dg0, Int.ofNat_zero, Int.cast_ofNat_Int, AV.flat, AV.flat.flatL, List.replicate_zero, List.replicate_succ, Int.reduceLE, Int.reduceLT, Int.reduceGT, Int.reduceGE, Int.reduceBEq, Int.reduceBNe, Int.reduceEq, Int.reduceToNat, Int.reduceSub, Int.reduceAdd, Int.reduceMul, Int.reducePow, Int.reduceNeg, goTG_val, goTG_new, goTG_up, goTG_none, goG_none, goG_new, goG_up, ne_eq, evK, evH, retHF, DRun_mk, runT_nil, runT_none, runT_guard, goT_val, goT_new, goT_store, goTH_true, goTH_false, evO, keys, Option.toList_some, Option.toList_none, nzL_nil, nzL_cons, nz_k, nz_sl, nz_nil, nz_agg, startL, evC, evV, goE_val, goE_new, goE_store, goH_true, goH_false, goG_val, lk_cons, lk_nil, lk_func, lk_int, lk_bool, lk_string, lk_slice, lk_agg, look_mk, St.effOf, eff, effCall, effBinC, isConst, effBin, effUn, effConv, effPick, effNil, effFold, fold1, effLoad, effStore, effFieldAddr, effField, fieldOf, sliceOf, effIndexAddr, effIndex, effLen, effExtract, effSlice, dats, bnd, effBuild, placesOf, effBuildSlice, effMakeSlice, effAppend, srcOf, fillA, chunk, seg, toD, toDs, put, eqAV, fieldsEq, leafEq, strip, unw, allB, selP_or, selP_and, tis, TyD.agg, AV.cells, AV.cell, allCell, vInt, vBool, vStr, subL_nil, subL_cons, upIds, AV.ids, AV.ids.idsL, AObj.ids, drops, Hp.get_cons, get_nil, retF, resL, one, fz, fz.fzL, List.map_cons, List.map_nil, List.nil_append, List.append_nil, List.cons_append, List.all_cons, List.all_nil, List.length_cons, List.length_nil, List.getElem?_cons_zero, List.getElem?_cons_succ, List.getD_cons_zero, List.getD_cons_succ, List.take_succ_cons, List.take_zero, List.drop_succ_cons, List.drop_zero, List.take_nil, List.drop_nil, List.contains_cons, List.contains_nil, Option.getD_some, Option.getD_none, Option.map_some, Option.map_none, if_true, if_false, true_and, and_true, and_self, or_self, or_false, false_or, false_and, and_false, reduceCtorEq, sel_and, sel_or, decide_eq_true_eq, Bool.and_eq_true, Bool.or_eq_true, Bool.and_true, Bool.true_and, Bool.or_false, Bool.false_or, Bool.true_or, Bool.or_true, Bool.not_true, Bool.not_false, Bool.false_eq_true, implies_true, not_false_eq_true, Nat.reduceLT, Nat.reduceEqDiff, Nat.reduceAdd, Nat.reduceMul, Nat.reduceMod, Nat.reduceLeDiff, Nat.reduceBEq, Nat.zero_add, Nat.add_zero, reduceIte, ↓reduceIte, List.not_mem_nil]
   refine wpc_loop (fun _ : Unit => ⟨92, [100], [(7, .row 100 1), (11, vInt .i64 1)], [(100, some (.row 5 1 [[.v (.int .u8 48)]]))]⟩) (fun _ => True) (fun _ => 0) () trivial ?_ ?_
   ·refine Le.of id [] ?_
    simp only [Mt_tup, Mt_agg, Mt_fn, forall_eq, forall_eq_or_imp, ne_eq, List.all_cons, List.all_nil, pr, Nat.reduceLeDiff, slR_nil, slR_cons, hpR_nil, hpR_cells, hpR_row, idsR_nil, idsR_cons, mtE_v, mtE_sl, mtE_nil, mtE_refl, mtE_row, mtE_born, mtE_ptr, mtE_rp, mtE_agg, mtE_tup, mtE_fn, mtE_ep, MtL_nil, MtL_cons, Mt_v, Mt_sl, Mt_nil, Mt_refl, Mt_row, Mt_born, Mt_ptr, MtO_cells, MtO_row, liveIds, distinct, Dat.v.injEq, Dat.sl.injEq, Value.int.injEq, Value.bool.injEq, Value.string.injEq, lk_cons, lk_nil, subL_nil, subL_cons, upIds, AV.ids, AV.ids.idsL, AObj.ids, Hp.get_cons, get_nil, allCell, AV.cell, vInt, vBool, vStr, id, true_and, and_true, and_self, List.append_nil, List.nil_append, List.not_mem_nil, List.mem_cons, or_false, false_or, or_self, not_true_eq_false, not_false_eq_true, false_imp_iff, false_implies, List.map_nil, not_false_eq_true, List.contains_cons, List.contains_nil, Bool.or_false, Bool.false_or, Bool.true_or, Bool.or_true, Bool.and_true, Bool.true_and, implies_true, if_true, if_false, reduceCtorEq, Nat.reduceEqDiff, Nat.reduceBEq, Nat.reduceAdd, reduceIte, ↓reduceIte]
   ·rintro ⟨⟩ -
    simp only [s0, z, w0, w1, v0, v48, wm, iD, G_rk_at, calmE, F_dg0, Int.ofNat_zero, Int.cast_ofNat_Int, AV.flat, AV.flat.flatL, List.replicate_zero, List.replicate_succ, Int.reduceLE, Int.reduceLT, Int.reduceGT, Int.reduceGE, Int.reduceBEq, Int.reduceBNe, Int.reduceEq, Int.reduceToNat, Int.reduceSub, Int.reduceAdd, Int.reduceMul, Int.reducePow, Int.reduceNeg, goTG_val, goTG_new, goTG_up, goTG_none, goG_none, goG_new, goG_up, ne_eq, evK, evH, retHF, DRun_mk, runT_nil, runT_none, runT_guard, goT_val, goT_new, goT_store, goTH_true, goTH_false, evO, keys, Option.toList_some, Option.toList_none, nzL_nil, nzL_cons, nz_k, nz_sl, nz_nil, nz_agg, startL, evC, evV, goE_val, goE_new, goE_store, goH_true, goH_false, goG_val, lk_cons, lk_nil, lk_func, lk_int, lk_bool, lk_string, lk_slice, lk_agg, look_mk, St.effOf, eff, effCall, effBinC, isConst, effBin, effUn, effConv, effPick, effNil, effFold, fold1, effLoad, effStore, effFieldAddr, effField, fieldOf, sliceOf, effIndexAddr, effIndex, effLen, effExtract, effSlice, dats, bnd, effBuild, placesOf, effBuildSlice, effMakeSlice, effAppend, srcOf, fillA, chunk, seg, toD, toDs, put, eqAV, fieldsEq, leafEq, strip, unw, allB, selP_or, selP_and, tis, TyD.agg, AV.cells, AV.cell, allCell, vInt, vBool, vStr, subL_nil, subL_cons, upIds, AV.ids, AV.ids.idsL, AObj.ids, drops, Hp.get_cons, get_nil, retF, resL, one, fz, fz.fzL, List.map_cons, List.map_nil, List.nil_append, List.append_nil, List.cons_append, List.all_cons, List.all_nil, List.length_cons, List.length_nil, List.getElem?_cons_zero, List.getElem?_cons_succ, List.getD_cons_zero, List.getD_cons_succ, List.take_succ_cons, List.take_zero, List.drop_succ_cons, List.drop_zero, List.take_nil, List.drop_nil, List.contains_cons, List.contains_nil, Option.getD_some, Option.getD_none, Option.map_some, Option.map_none, if_true, if_false, true_and, and_true, and_self, or_self, or_false, false_or, false_and, and_false, reduceCtorEq, sel_and, sel_or, decide_eq_true_eq, Bool.and_eq_true, Bool.or_eq_true, Bool.and_true, Bool.true_and, Bool.or_false, Bool.false_or, Bool.true_or, Bool.or_true, Bool.not_true, Bool.not_false, Bool.false_eq_true, implies_true, not_false_eq_true, Nat.reduceLT, Nat.reduceEqDiff, Nat.reduceAdd, Nat.reduceMul, Nat.reduceMod, Nat.reduceLeDiff, Nat.reduceBEq, Nat.zero_add, Nat.add_zero, reduceIte, ↓reduceIte, List.not_mem_nil]
    refine wpc_loop (fun j : Nat => ⟨92, [100, 101], [(7, .row 100 1), (12, .row 101 j), (13, vInt .i64 (-(j : Int)))], [(100, some (.row 5 1 [[.v (.int .u8 48)]])), (101, some (.row 5 1 (List.replicate j [.v (.int .u8 48)])))]⟩) (fun j => j ≤ 1) (fun j => 1 - j) 0 (by omega) ?_ ?_
    ·refine Le.of id [101] ?_
     simp only [List.replicate_zero, Mt_tup, Mt_agg, Mt_fn, forall_eq, forall_eq_or_imp, ne_eq, List.all_cons, List.all_nil, pr, Nat.reduceLeDiff, slR_nil, slR_cons, hpR_nil, hpR_cells, hpR_row, idsR_nil, idsR_cons, mtE_v, mtE_sl, mtE_nil, mtE_refl, mtE_row, mtE_born, mtE_ptr, mtE_rp, mtE_agg, mtE_tup, mtE_fn, mtE_ep, MtL_nil, MtL_cons, Mt_v, Mt_sl, Mt_nil, Mt_refl, Mt_row, Mt_born, Mt_ptr, MtO_cells, MtO_row, liveIds, distinct, Dat.v.injEq, Dat.sl.injEq, Value.int.injEq, Value.bool.injEq, Value.string.injEq, lk_cons, lk_nil, subL_nil, subL_cons, upIds, AV.ids, AV.ids.idsL, AObj.ids, Hp.get_cons, get_nil, allCell, AV.cell, vInt, vBool, vStr, id, true_and, and_true, and_self, List.append_nil, List.nil_append, List.not_mem_nil, List.mem_cons, or_false, false_or, or_self, not_true_eq_false, not_false_eq_true, false_imp_iff, false_implies, List.map_nil, not_false_eq_true, List.contains_cons, List.contains_nil, Bool.or_false, Bool.false_or, Bool.true_or, Bool.or_true, Bool.and_true, Bool.true_and, implies_true, if_true, if_false, reduceCtorEq, Nat.reduceEqDiff, Nat.reduceBEq, Nat.reduceAdd, reduceIte, ↓reduceIte]
     exact ⟨rfl, rfl⟩
    ·intro j hj
     obtain rfl | rfl : j = 0 ∨ j = 1 := by omega
     ·simp only [s0, z, w0, w1, v0, v48, wm, iD, G_rk_at, calmE, F_dg0, Int.ofNat_zero, Int.cast_ofNat_Int, AV.flat, AV.flat.flatL, List.replicate_zero, List.replicate_succ, Int.reduceLE, Int.reduceLT, Int.reduceGT, Int.reduceGE, Int.reduceBEq, Int.reduceBNe, Int.reduceEq, Int.reduceToNat, Int.reduceSub, Int.reduceAdd, Int.reduceMul, Int.reducePow, Int.reduceNeg, goTG_val, goTG_new, goTG_up, goTG_none, goG_none, goG_new, goG_up, ne_eq, evK, evH, retHF, DRun_mk, runT_nil, runT_none, runT_guard, goT_val, goT_new, goT_store, goTH_true, goTH_false, evO, keys, Option.toList_some, Option.toList_none, nzL_nil, nzL_cons, nz_k, nz_sl, nz_nil, nz_agg, startL, evC, evV, goE_val, goE_new, goE_store, goH_true, goH_false, goG_val, lk_cons, lk_nil, lk_func, lk_int, lk_bool, lk_string, lk_slice, lk_agg, look_mk, St.effOf, eff, effCall, effBinC, isConst, effBin, effUn, effConv, effPick, effNil, effFold, fold1, effLoad, effStore, effFieldAddr, effField, fieldOf, sliceOf, effIndexAddr, effIndex, effLen, effExtract, effSlice, dats, bnd, effBuild, placesOf, effBuildSlice, effMakeSlice, effAppend, srcOf, fillA, chunk, seg, toD, toDs, put, eqAV, fieldsEq, leafEq, strip, unw, allB, selP_or, selP_and, tis, TyD.agg, AV.cells, AV.cell, allCell, vInt, vBool, vStr, subL_nil, subL_cons, upIds, AV.ids, AV.ids.idsL, AObj.ids, drops, Hp.get_cons, get_nil, retF, resL, one, fz, fz.fzL, List.map_cons, List.map_nil, List.nil_append, List.append_nil, List.cons_append, List.all_cons, List.all_nil, List.length_cons, List.length_nil, List.getElem?_cons_zero, List.getElem?_cons_succ, List.getD_cons_zero, List.getD_cons_succ, List.take_succ_cons, List.take_zero, List.drop_succ_cons, List.drop_zero, List.take_nil, List.drop_nil, List.contains_cons, List.contains_nil, Option.getD_some, Option.getD_none, Option.map_some, Option.map_none, if_true, if_false, true_and, and_true, and_self, or_self, or_false, false_or, false_and, and_false, reduceCtorEq, sel_and, sel_or, decide_eq_true_eq, Bool.and_eq_true, Bool.or_eq_true, Bool.and_true, Bool.true_and, Bool.or_false, Bool.false_or, Bool.true_or, Bool.or_true, Bool.not_true, Bool.not_false, Bool.false_eq_true, implies_true, not_false_eq_true, Nat.reduceLT, Nat.reduceEqDiff, Nat.reduceAdd, Nat.reduceMul, Nat.reduceMod, Nat.reduceLeDiff, Nat.reduceBEq, Nat.zero_add, Nat.add_zero, reduceIte, ↓reduceIte, List.not_mem_nil]
      refine ⟨1, by omega, by omega, Le.of (fun o => if o = 101 then 89 else o) [] ?_⟩
      simp only [List.replicate_zero, List.replicate_succ, Mt_tup, Mt_agg, Mt_fn, forall_eq, forall_eq_or_imp, ne_eq, List.all_cons, List.all_nil, pr, Nat.reduceLeDiff, slR_nil, slR_cons, hpR_nil, hpR_cells, hpR_row, idsR_nil, idsR_cons, mtE_v, mtE_sl, mtE_nil, mtE_refl, mtE_row, mtE_born, mtE_ptr, mtE_rp, mtE_agg, mtE_tup, mtE_fn, mtE_ep, MtL_nil, MtL_cons, Mt_v, Mt_sl, Mt_nil, Mt_refl, Mt_row, Mt_born, Mt_ptr, MtO_cells, MtO_row, liveIds, distinct, Dat.v.injEq, Dat.sl.injEq, Value.int.injEq, Value.bool.injEq, Value.string.injEq, lk_cons, lk_nil, subL_nil, subL_cons, upIds, AV.ids, AV.ids.idsL, AObj.ids, Hp.get_cons, get_nil, allCell, AV.cell, vInt, vBool, vStr, id, true_and, and_true, and_self, List.append_nil, List.nil_append, List.not_mem_nil, List.mem_cons, or_false, false_or, or_self, not_true_eq_false, not_false_eq_true, false_imp_iff, false_implies, List.map_nil, not_false_eq_true, List.contains_cons, List.contains_nil, Bool.or_false, Bool.false_or, Bool.true_or, Bool.or_true, Bool.and_true, Bool.true_and, implies_true, if_true, if_false, reduceCtorEq, Nat.reduceEqDiff, Nat.reduceBEq, Nat.reduceAdd, reduceIte, ↓reduceIte]
      exact ⟨rfl, rfl⟩
     ·simp only [s0, z, w0, w1, v0, v48, wm, iD, G_rk_at, calmE, F_dg0, Int.ofNat_zero, Int.cast_ofNat_Int, AV.flat, AV.flat.flatL, List.replicate_zero, List.replicate_succ, Int.reduceLE, Int.reduceLT, Int.reduceGT, Int.reduceGE, Int.reduceBEq, Int.reduceBNe, Int.reduceEq, Int.reduceToNat, Int.reduceSub, Int.reduceAdd, Int.reduceMul, Int.reducePow, Int.reduceNeg, goTG_val, goTG_new, goTG_up, goTG_none, goG_none, goG_new, goG_up, ne_eq, evK, evH, retHF, DRun_mk, runT_nil, runT_none, runT_guard, goT_val, goT_new, goT_store, goTH_true, goTH_false, evO, keys, Option.toList_some, Option.toList_none, nzL_nil, nzL_cons, nz_k, nz_sl, nz_nil, nz_agg, startL, evC, evV, goE_val, goE_new, goE_store, goH_true, goH_false, goG_val, lk_cons, lk_nil, lk_func, lk_int, lk_bool, lk_string, lk_slice, lk_agg, look_mk, St.effOf, eff, effCall, effBinC, isConst, effBin, effUn, effConv, effPick, effNil, effFold, fold1, effLoad, effStore, effFieldAddr, effField, fieldOf, sliceOf, effIndexAddr, effIndex, effLen, effExtract, effSlice, dats, bnd, effBuild, placesOf, effBuildSlice, effMakeSlice, effAppend, srcOf, fillA, chunk, seg, toD, toDs, put, eqAV, fieldsEq, leafEq, strip, unw, allB, selP_or, selP_and, tis, TyD.agg, AV.cells, AV.cell, allCell, vInt, vBool, vStr, subL_nil, subL_cons, upIds, AV.ids, AV.ids.idsL, AObj.ids, drops, Hp.get_cons, get_nil, retF, resL, one, fz, fz.fzL, List.map_cons, List.map_nil, List.nil_append, List.append_nil, List.cons_append, List.all_cons, List.all_nil, List.length_cons, List.length_nil, List.getElem?_cons_zero, List.getElem?_cons_succ, List.getD_cons_zero, List.getD_cons_succ, List.take_succ_cons, List.take_zero, List.drop_succ_cons, List.drop_zero, List.take_nil, List.drop_nil, List.contains_cons, List.contains_nil, Option.getD_some, Option.getD_none, Option.map_some, Option.map_none, if_true, if_false, true_and, and_true, and_self, or_self, or_false, false_or, false_and, and_false, reduceCtorEq, sel_and, sel_or, decide_eq_true_eq, Bool.and_eq_true, Bool.or_eq_true, Bool.and_true, Bool.true_and, Bool.or_false, Bool.false_or, Bool.true_or, Bool.or_true, Bool.not_true, Bool.not_false, Bool.false_eq_true, implies_true, not_false_eq_true, Nat.reduceLT, Nat.reduceEqDiff, Nat.reduceAdd, Nat.reduceMul, Nat.reduceMod, Nat.reduceLeDiff, Nat.reduceBEq, Nat.zero_add, Nat.add_zero, reduceIte, ↓reduceIte, List.not_mem_nil]
      exact ⟨byteOf_all [48], Sub.refl _⟩
def F_rk : List AV → Option (Prop × AV)
 | [.d (.v (.string s)), .d (.v (.string t)), .d (.v (.bool l))] => some (s = s0 ∧ t = s0 ∧ l = false, vStr s0)
 | _ => none
theorem rk_calm : ∀ args sc res, F_rk args = some (sc, res) → sc → Calm Try.prog 84 args res := by
 intro args sc res h hs
 unfold F_rk at h
 split at h <;> cases h
 obtain ⟨rfl, rfl, rfl⟩ := hs
 exact known_G_rk.calm mixed rfl rfl rk_body
noncomputable def G_ad : Gam := (((Gam.none.add 82 fun a => F_rd0 (NT.nz.nzL [] a)).add 83 fun a => F_sg0 (NT.nz.nzL [] a)).add 84 fun a => F_rk (NT.nz.nzL [] a))
theorem known_G_ad : Known Try.prog G_ad := (((Known.none _).addC _ rd0_calm).addC _ sg0_calm).addC _ rk_calm
theorem G_ad_at : (∀ h d a, G_ad 82 h d a = calmE (fun a => F_rd0 (NT.nz.nzL [] a)) h a) ∧ (∀ h d a, G_ad 83 h d a = calmE (fun a => F_sg0 (NT.nz.nzL [] a)) h a) ∧ (∀ h d a, G_ad 84 h d a = calmE (fun a => F_rk (NT.nz.nzL [] a)) h a) := ⟨fun _ _ _ => rfl, fun _ _ _ => rfl, fun _ _ _ => rfl⟩
def F_ad : List AV → Option (Prop × AV)
 | [.d (.v (.string s)), .d (.v (.string t))] => some (s = s0 ∧ t = s0, .tup [vStr s0, vBool true])
 | _ => none
theorem ad_calm : ∀ args sc res, F_ad args = some (sc, res) → sc → Calm Try.prog 73 args res := by
 intro args sc res h hs
 unfold F_ad at h
 split at h <;> cases h
 obtain ⟨rfl, rfl⟩ := hs
 refine known_G_ad.calm mixed rfl rfl ?_
 refine Body.of Try.func73 Try.ntmps73 (by kernel_rfl) rfl rfl rfl ?_
 simp only [s0, beq_self_eq_true, G_ad_at, calmE, F_rd0, F_sg0, F_rk, AV.flat, AV.flat.flatL, Int.reduceLE, Int.reduceLT, Int.reduceGT, Int.reduceGE, Int.reduceBEq, Int.reduceBNe, Int.reduceEq, Int.reduceToNat, Int.reduceSub, Int.reduceAdd, Int.reduceMul, Int.reducePow, Int.reduceNeg, goTG_val, goTG_new, goTG_up, goTG_none, goG_none, goG_new, goG_up, ne_eq, evK, evH, retHF, DRun_mk, runT_nil, runT_none, runT_guard, goT_val, goT_new, goT_store, goTH_true, goTH_false, evO, keys, Option.toList_some, Option.toList_none, nzL_nil, nzL_cons, nz_k, nz_sl, nz_nil, nz_agg, startL, evC, evV, goE_val, goE_new, goE_store, goH_true, goH_false, goG_val, lk_cons, lk_nil, lk_func, lk_int, lk_bool, lk_string, lk_slice, lk_agg, look_mk, St.effOf, eff, effCall, effBinC, isConst, effBin, effUn, effConv, effPick, effNil, effFold, fold1, effLoad, effStore, effFieldAddr, effField, fieldOf, sliceOf, effIndexAddr, effIndex, effLen, effExtract, effSlice, dats, bnd, effBuild, placesOf, effBuildSlice, effMakeSlice, effAppend, srcOf, fillA, chunk, seg, toD, toDs, put, eqAV, fieldsEq, leafEq, strip, unw, allB, selP_or, selP_and, tis, TyD.agg, AV.cells, AV.cell, allCell, vInt, vBool, vStr, subL_nil, subL_cons, upIds, AV.ids, AV.ids.idsL, AObj.ids, drops, Hp.get_cons, get_nil, retF, resL, one, fz, fz.fzL, List.map_cons, List.map_nil, List.nil_append, List.append_nil, List.cons_append, List.all_cons, List.all_nil, List.length_cons, List.length_nil, List.getElem?_cons_zero, List.getElem?_cons_succ, List.getD_cons_zero, List.getD_cons_succ, List.take_succ_cons, List.take_zero, List.drop_succ_cons, List.drop_zero, List.take_nil, List.drop_nil, List.contains_cons, List.contains_nil, Option.getD_some, Option.getD_none, Option.map_some, Option.map_none, if_true, if_false, true_and, and_true, and_self, or_self, or_false, false_or, false_and, and_false, reduceCtorEq, sel_and, sel_or, decide_eq_true_eq, Bool.and_eq_true, Bool.or_eq_true, Bool.and_true, Bool.true_and, Bool.or_false, Bool.false_or, Bool.true_or, Bool.or_true, Bool.not_true, Bool.not_false, Bool.false_eq_true, implies_true, not_false_eq_true, Nat.reduceLT, Nat.reduceEqDiff, Nat.reduceAdd, Nat.reduceMul, Nat.reduceMod, Nat.reduceLeDiff, Nat.reduceBEq, Nat.zero_add, Nat.add_zero, reduceIte, ↓reduceIte, List.not_mem_nil]
 exact Sub.refl _
def okN (s : ByteArray) : Prop := s = s3
def rnV (_ : ByteArray) : Bool × ByteArray × ByteArray := (false, s3, s0)
def F_rn : List AV → Option (Prop × AV)
 | [.d (.v (.string s))] => some (okN s, .tup [.agg [vBool (rnV s).1, vStr (rnV s).2.1, vStr (rnV s).2.2], vBool true])
 | _ => none
noncomputable def G_rnm : Gam := ((((Gam.none.add 71 fun a => F_rrun (NT.nz.nzL [] a)).add 72 fun a => F_st0 (NT.nz.nzL [] a)).add 74 fun a => F_dc0 (NT.nz.nzL [] a)).add 73 fun a => F_ad (NT.nz.nzL [] a))
theorem known_G_rnm : Known Try.prog G_rnm := ((((Known.none _).addC _ rrun_calm).addC _ st0_calm).addC _ dc0_calm).addC _ ad_calm
theorem G_rnm_at : (∀ h d a, G_rnm 71 h d a = calmE (fun a => F_rrun (NT.nz.nzL [] a)) h a) ∧ (∀ h d a, G_rnm 72 h d a = calmE (fun a => F_st0 (NT.nz.nzL [] a)) h a) ∧ (∀ h d a, G_rnm 74 h d a = calmE (fun a => F_dc0 (NT.nz.nzL [] a)) h a) ∧ (∀ h d a, G_rnm 73 h d a = calmE (fun a => F_ad (NT.nz.nzL [] a)) h a) := ⟨fun _ _ _ => rfl, fun _ _ _ => rfl, fun _ _ _ => rfl, fun _ _ _ => rfl⟩
set_option maxHeartbeats 2000000 in
theorem rn_calm : ∀ args sc res, F_rn args = some (sc, res) → sc → Calm Try.prog 55 args res := by
 intro args sc res h hs
 unfold F_rn at h
 split at h <;> cases h
 unfold okN at hs
 subst hs
 refine known_G_rnm.calm mixed rfl rfl ?_
 refine Body.of Try.func55 Try.ntmps55 (by kernel_rfl) rfl rfl rfl ?_
 have z3 : ((ByteArray.size ⟨#[51]⟩ : Nat) : Int) = 1 := rfl
 have r3 : runN digB (sB ⟨#[51]⟩) 0 = 1 := by decide +kernel
 have x3 : (ByteArray.mk #[51]).extract 0 1 = ⟨#[51]⟩ := by decide +kernel
 have a3 : (ByteArray.mk #[51]) ++ (ByteArray.mk #[]) = ⟨#[51]⟩ := by decide +kernel
 have n3 : ((ByteArray.mk #[51]).toList == (ByteArray.mk #[]).toList) = false := by rw [ByteArray.toList_eq, ByteArray.toList_eq]; rfl
 have z0 : ((ByteArray.size ⟨#[]⟩ : Nat) : Int) = 0 := rfl
 have w0 : IntKind.i64.wrap 0 = 0 := rfl
 simp (config := { maxSteps := 1000000 }) only [s0, s3, rnV, bt_3, z3, r3, x3, a3, n3, z0, w0, Int.cast_ofNat_Int, G_rnm_at, calmE, F_rrun, F_st0, F_dc0, F_ad, AV.flat, AV.flat.flatL, Int.reduceLE, Int.reduceLT, Int.reduceGT, Int.reduceGE, Int.reduceBEq, Int.reduceBNe, Int.reduceEq, Int.reduceToNat, Int.reduceSub, Int.reduceAdd, Int.reduceMul, Int.reducePow, Int.reduceNeg, goTG_val, goTG_new, goTG_up, goTG_none, goG_none, goG_new, goG_up, ne_eq, evK, evH, retHF, DRun_mk, runT_nil, runT_none, runT_guard, goT_val, goT_new, goT_store, goTH_true, goTH_false, evO, keys, Option.toList_some, Option.toList_none, nzL_nil, nzL_cons, nz_k, nz_sl, nz_nil, nz_agg, startL, evC, evV, goE_val, goE_new, goE_store, goH_true, goH_false, goG_val, lk_cons, lk_nil, lk_func, lk_int, lk_bool, lk_string, lk_slice, lk_agg, look_mk, St.effOf, eff, effCall, effBinC, isConst, effBin, effUn, effConv, effPick, effNil, effFold, fold1, effLoad, effStore, effFieldAddr, effField, fieldOf, sliceOf, effIndexAddr, effIndex, effLen, effExtract, effSlice, dats, bnd, effBuild, placesOf, effBuildSlice, effMakeSlice, effAppend, srcOf, fillA, chunk, seg, toD, toDs, put, eqAV, fieldsEq, leafEq, strip, unw, allB, selP_or, selP_and, tis, TyD.agg, AV.cells, AV.cell, allCell, vInt, vBool, vStr, subL_nil, subL_cons, upIds, AV.ids, AV.ids.idsL, AObj.ids, drops, Hp.get_cons, get_nil, retF, resL, one, fz, fz.fzL, List.map_cons, List.map_nil, List.nil_append, List.append_nil, List.cons_append, List.all_cons, List.all_nil, List.length_cons, List.length_nil, List.getElem?_cons_zero, List.getElem?_cons_succ, List.getD_cons_zero, List.getD_cons_succ, List.take_succ_cons, List.take_zero, List.drop_succ_cons, List.drop_zero, List.take_nil, List.drop_nil, List.contains_cons, List.contains_nil, Option.getD_some, Option.getD_none, Option.map_some, Option.map_none, if_true, if_false, true_and, and_true, and_self, or_self, or_false, false_or, false_and, and_false, reduceCtorEq, sel_and, sel_or, decide_eq_true_eq, Bool.and_eq_true, Bool.or_eq_true, Bool.and_true, Bool.true_and, Bool.or_false, Bool.false_or, Bool.true_or, Bool.or_true, Bool.not_true, Bool.not_false, Bool.false_eq_true, implies_true, not_false_eq_true, Nat.reduceLT, Nat.reduceEqDiff, Nat.reduceAdd, Nat.reduceMul, Nat.reduceMod, Nat.reduceLeDiff, Nat.reduceBEq, Nat.zero_add, Nat.add_zero, reduceIte, ↓reduceIte, List.not_mem_nil]
 refine ⟨by decide, fun h => h, by decide, fun h => h, fun h => h, by decide, by decide, ?_⟩
 refine wpc_loop (fun _ : Unit => ⟨178, [100, 101], [(2, .ptr 100 0), (5, .ptr 101 0), (10, vStr s0), (13, vStr s3), (14, vInt .i64 0)], [(100, some (.cells 34 [vBool false, vStr ByteArray.empty, vStr ByteArray.empty])), (101, some (.cells 34 [vBool false, vStr ByteArray.empty, vStr ByteArray.empty]))]⟩) (fun _ => True) (fun _ => 0) () trivial ?_ ?_
 ·refine Le.of (fun o => if o = 100 then 2 else 5) [] ?_
  simp only [s0, s3, Mt_tup, Mt_agg, Mt_fn, forall_eq, forall_eq_or_imp, ne_eq, List.all_cons, List.all_nil, pr, Nat.reduceLeDiff, slR_nil, slR_cons, hpR_nil, hpR_cells, hpR_row, idsR_nil, idsR_cons, mtE_v, mtE_sl, mtE_nil, mtE_refl, mtE_row, mtE_born, mtE_ptr, mtE_rp, mtE_agg, mtE_tup, mtE_fn, mtE_ep, MtL_nil, MtL_cons, Mt_v, Mt_sl, Mt_nil, Mt_refl, Mt_row, Mt_born, Mt_ptr, MtO_cells, MtO_row, liveIds, distinct, Dat.v.injEq, Dat.sl.injEq, Value.int.injEq, Value.bool.injEq, Value.string.injEq, lk_cons, lk_nil, subL_nil, subL_cons, upIds, AV.ids, AV.ids.idsL, AObj.ids, Hp.get_cons, get_nil, allCell, AV.cell, vInt, vBool, vStr, id, true_and, and_true, and_self, List.append_nil, List.nil_append, List.not_mem_nil, List.mem_cons, or_false, false_or, or_self, not_true_eq_false, not_false_eq_true, false_imp_iff, false_implies, List.map_nil, not_false_eq_true, List.contains_cons, List.contains_nil, Bool.or_false, Bool.false_or, Bool.true_or, Bool.or_true, Bool.and_true, Bool.true_and, implies_true, if_true, if_false, reduceCtorEq, Nat.reduceEqDiff, Nat.reduceBEq, Nat.reduceAdd, reduceIte, ↓reduceIte]
  rfl
 ·rintro ⟨⟩ -
  have n3' : ((ByteArray.mk #[51]).toList == (ByteArray.mk #[]).toList) = false := n3
  simp (config := { maxSteps := 1000000 }) only [s0, s3, rnV, bt_3, z3, r3, x3, a3, n3, z0, w0, Int.cast_ofNat_Int, G_rnm_at, calmE, F_rrun, F_st0, F_dc0, F_ad, AV.flat, AV.flat.flatL, Int.reduceLE, Int.reduceLT, Int.reduceGT, Int.reduceGE, Int.reduceBEq, Int.reduceBNe, Int.reduceEq, Int.reduceToNat, Int.reduceSub, Int.reduceAdd, Int.reduceMul, Int.reducePow, Int.reduceNeg, goTG_val, goTG_new, goTG_up, goTG_none, goG_none, goG_new, goG_up, ne_eq, evK, evH, retHF, DRun_mk, runT_nil, runT_none, runT_guard, goT_val, goT_new, goT_store, goTH_true, goTH_false, evO, keys, Option.toList_some, Option.toList_none, nzL_nil, nzL_cons, nz_k, nz_sl, nz_nil, nz_agg, startL, evC, evV, goE_val, goE_new, goE_store, goH_true, goH_false, goG_val, lk_cons, lk_nil, lk_func, lk_int, lk_bool, lk_string, lk_slice, lk_agg, look_mk, St.effOf, eff, effCall, effBinC, isConst, effBin, effUn, effConv, effPick, effNil, effFold, fold1, effLoad, effStore, effFieldAddr, effField, fieldOf, sliceOf, effIndexAddr, effIndex, effLen, effExtract, effSlice, dats, bnd, effBuild, placesOf, effBuildSlice, effMakeSlice, effAppend, srcOf, fillA, chunk, seg, toD, toDs, put, eqAV, fieldsEq, leafEq, strip, unw, allB, selP_or, selP_and, tis, TyD.agg, AV.cells, AV.cell, allCell, vInt, vBool, vStr, subL_nil, subL_cons, upIds, AV.ids, AV.ids.idsL, AObj.ids, drops, Hp.get_cons, get_nil, retF, resL, one, fz, fz.fzL, List.map_cons, List.map_nil, List.nil_append, List.append_nil, List.cons_append, List.all_cons, List.all_nil, List.length_cons, List.length_nil, List.getElem?_cons_zero, List.getElem?_cons_succ, List.getD_cons_zero, List.getD_cons_succ, List.take_succ_cons, List.take_zero, List.drop_succ_cons, List.drop_zero, List.take_nil, List.drop_nil, List.contains_cons, List.contains_nil, Option.getD_some, Option.getD_none, Option.map_some, Option.map_none, if_true, if_false, true_and, and_true, and_self, or_self, or_false, false_or, false_and, and_false, reduceCtorEq, sel_and, sel_or, decide_eq_true_eq, Bool.and_eq_true, Bool.or_eq_true, Bool.and_true, Bool.true_and, Bool.or_false, Bool.false_or, Bool.true_or, Bool.or_true, Bool.not_true, Bool.not_false, Bool.false_eq_true, implies_true, not_false_eq_true, Nat.reduceLT, Nat.reduceEqDiff, Nat.reduceAdd, Nat.reduceMul, Nat.reduceMod, Nat.reduceLeDiff, Nat.reduceBEq, Nat.zero_add, Nat.add_zero, reduceIte, ↓reduceIte, List.not_mem_nil]
  exact Sub.refl _
end Go.Proofs.Ytgbialeahdoelaa.Eng

end
