/- SmapJson: part 3 of 15. -/
import Derived.Test.YtgbialeahdoelaaBSmapJsonb
import Derived.Test.YtgbialeahdoelaaProg
import Derived.KernelRfl
section
namespace Go.Proofs.Ytgbialeahdoelaa.Eng
open Go
set_option linter.unusedVariables false
set_option linter.unusedSimpArgs false
def fz (h : Nat → Option AObj) : AV → Option (AV × List Nat)
 | .d x => some (.d x, [])
 | .row o _ => match h o with
  | some (.row _ sz xs) => some (.d (.sl sz xs), [o])
  | _ => none
 | .agg l => match fzL h l with
  | some (l', k) => some (.agg l', k)
  | none => none
 | .tup l => match fzL h l with
  | some (l', k) => some (.tup l', k)
  | none => none
 | .fn f l => match fzL h l with
  | some (l', k) => some (.fn f l', k)
  | none => none
 | .ptr o off => match h o with
  | some (.cells _ cs) => match dats cs with
   | some ds => some (.ep ds off, [o])
   | none => none
  | _ => none
 | .ep cs off => some (.ep cs off, [])
 | _ => none
where fzL (h : Nat → Option AObj) : List AV → Option (List AV × List Nat)
 | [] => some ([], [])
 | c :: l => match fz h c, fzL h l with
  | some (c', k), some (l', k') => some (c' :: l', k ++ k')
  | _, _ => none
def AV.flat : AV → Bool
 | .d (.v _) => true
 | .tup l => flatL l
 | .agg l => flatL l
 | _ => false
where flatL : List AV → Bool
 | [] => true
 | c :: l => c.flat && flatL l
mutual
theorem fz_ids {h : Nat → Option AObj} : ∀ {c c' : AV} {k : List Nat}, fz h c = some (c', k) → c'.ids = []
 | .d x, c', k, e => by cases e; rfl
 | .row o n, c', k, e => by
  simp only [fz] at e
  split at e
  ·cases e; rfl
  ·cases e
 | .agg l, c', k, e => by
  simp only [fz] at e
  split at e
  ·rename_i l' k' hl; cases e; exact fzL_ids hl
  ·cases e
 | .tup l, c', k, e => by
  simp only [fz] at e
  split at e
  ·rename_i l' k' hl; cases e; exact fzL_ids hl
  ·cases e
 | .fn f l, c', k, e => by
  simp only [fz] at e
  split at e
  ·rename_i l' k' hl; cases e; exact fzL_ids hl
  ·cases e
 | .ptr o off, _, _, e => by
  simp only [fz] at e
  split at e
  ·split at e
   ·cases e; rfl
   ·cases e
  ·cases e
 | .ep _ _, _, _, e => by cases e; rfl
 | .rp _ _ _ _, _, _, e => by cases e
 | .gd _ _, _, _, e => by cases e
 | .bad, _, _, e => by cases e
theorem fzL_ids {h : Nat → Option AObj} : ∀ {l l' : List AV} {k : List Nat}, fz.fzL h l = some (l', k) → AV.ids.idsL l' = []
 | [], l', k, e => by cases e; rfl
 | c :: l, l', k, e => by
  simp only [fz.fzL] at e
  split at e
  ·rename_i c1 k1 l1 k2 h1 h2
   cases e
   simp [AV.ids.idsL, fz_ids h1, fzL_ids h2]
  ·cases e
end
theorem idsL_nil {l : List AV} (h : AV.ids.idsL l = []) : ∀ c ∈ l, c.ids = [] := fun c hc => by
 induction l with
 | nil => cases hc
 | cons a l ih =>
  simp only [AV.ids.idsL, List.append_eq_nil_iff] at h
  rcases List.mem_cons.1 hc with rfl | hc
  ·exact h.1
  ·exact ih h.2 hc
section
variable {P : Program} {Γ : Gam} {C : Ctx} {m : Nat → Value} {w : World} {hp hp1 : Hp}
theorem fzL_length {h : Nat → Option AObj} : ∀ {l l' : List AV} {k : List Nat}, fz.fzL h l = some (l', k) → l'.length = l.length
 | [], l', k, e => by cases e; rfl
 | c :: l, l', k, e => by
  simp only [fz.fzL] at e
  split at e
  ·rename_i c1 k1 l1 k2 h1 h2
   cases e
   simp [fzL_length h2]
  ·cases e
mutual
theorem fz_val (I : Inv C m w hp) (hsub : ∀ o obj, hp1.get o = some obj → hp.get o = some obj) : ∀ {c c' : AV} {k : List Nat} {u : Value}, fz hp.get c = some (c', k) → (∀ o ∈ k, hp1.get o = none) → Val w (im C m w hp) m u c → Val w (im C m w hp1) m u c'
 | .d x, c', k, u, e, hk, hv => by cases e; exact hv.mono (I.drop hsub).2 (fun _ _ => rfl)
 | .row o n, c', k, u, e, hk, hv => by
  simp only [fz] at e
  split at e
  ·rename_i e0 sz xs ho
   cases e
   cases hv with
   | row hm => exact .d (hm ▸ row_rd I ho hsub (hk o (by simp)))
  ·cases e
 | .agg l, c', k, u, e, hk, hv => by
  simp only [fz] at e
  split at e
  ·rename_i l' k' hl
   cases e
   cases hv with
   | agg hn hv => exact .agg (by rw [hn, fzL_length hl]) fun i u c h1 h2 => fzL_val I hsub hl hk i u c h2 fun c0 h0 => hv i u c0 h1 h0
  ·cases e
 | .tup l, c', k, u, e, hk, hv => by
  simp only [fz] at e
  split at e
  ·rename_i l' k' hl
   cases e
   cases hv with
   | tup hn hv => exact .tup (by rw [hn, fzL_length hl]) fun i u c h1 h2 => fzL_val I hsub hl hk i u c h2 fun c0 h0 => hv i u c0 h1 h0
  ·cases e
 | .fn f l, c', k, u, e, hk, hv => by
  simp only [fz] at e
  split at e
  ·rename_i l' k' hl
   cases e
   cases hv with
   | fn hn hv => exact .fn (by rw [hn, fzL_length hl]) fun i u c h1 h2 => fzL_val I hsub hl hk i u c h2 fun c0 h0 => hv i u c0 h1 h0
  ·cases e
 | .ptr o off, c', k, u, e, hk, hv => by
  simp only [fz] at e
  split at e
  ·rename_i e0 cs ho
   split at e
   ·rename_i ds hds
    cases e
    have hcs := dats_get hds
    subst hcs
    cases hv with
    | @ptr _ _ b hm =>
    have hrd := cells_rd I hm ho hsub (hk o (by simp))
    have hrow : ∀ j x, ds[j]? = some x → (ds.map fun x => [x])[j]? = some [x] := fun j x hx => by rw [List.getElem?_map, hx]; rfl
    have ea : (⟨b, off, none⟩ : Addr) = (⟨b, 0, none⟩ : Addr).add off := by rw [addr_eta _ rfl]; simp
    rw [ea]
    cases hrd with
    | sl vs hs hl hc hi hz hw hr =>
     refine .ep (fun j => vs j 0) rfl (fun hne => hi (by simpa using hne)) (fun j x hx => ?_) (fun j x hx => hr j 0 [x] x (hrow j x hx) rfl)
     have := hw j 0 [x] x (hrow j x hx) rfl
     simpa using this
   ·cases e
  ·cases e
 | .ep cs off, c', k, u, e, hk, hv => by cases e; exact hv.mono (I.drop hsub).2 (fun o ho => by cases ho)
 | .rp _ _ _ _, _, _, _, e, _, _ => by cases e
 | .gd _ _, _, _, _, e, _, _ => by cases e
 | .bad, _, _, _, e, _, _ => by cases e
theorem fzL_val (I : Inv C m w hp) (hsub : ∀ o obj, hp1.get o = some obj → hp.get o = some obj) : ∀ {l l' : List AV} {k : List Nat}, fz.fzL hp.get l = some (l', k) → (∀ o ∈ k, hp1.get o = none) →
  ∀ (i : Nat) (u : Value) (c' : AV), l'[i]? = some c' → (∀ c, l[i]? = some c → Val w (im C m w hp) m u c) → Val w (im C m w hp1) m u c'
 | [], l', k, e, hk, i, u, c', hc', hv => by cases e; simp at hc'
 | c :: l, l', k, e, hk, i, u, c', hc', hv => by
  simp only [fz.fzL] at e
  split at e
  ·rename_i c1 k1 l1 k2 h1 h2
   cases e
   cases i with
   | zero =>
    cases hc'
    exact fz_val I hsub h1 (fun o ho => hk o (List.mem_append.2 (.inl ho))) (hv c rfl)
   | succ i => exact fzL_val I hsub h2 (fun o ho => hk o (List.mem_append.2 (.inr ho))) i u c' (by simpa using hc') (fun c0 h0 => hv c0 (by simpa using h0))
  ·cases e
end
mutual
theorem flat_val {w w' : World} {i i' : Nat → Prop} {m m' : Nat → Value} : ∀ {c : AV} {u : Value}, c.flat = true → Val w i m u c → Val w' i' m' u c
 | .d (.v x), u, _, h => by cases h with | d h => cases h with | v h => exact .d (.v h)
 | .d (.sl _ _), u, e, _ => by cases e
 | .tup l, u, e, h => by cases h with | tup hn h => exact .tup hn fun i u c h1 h2 => flatL_val (l := l) e i u c h2 (h i u c h1 h2)
 | .agg l, u, e, h => by cases h with | agg hn h => exact .agg hn fun i u c h1 h2 => flatL_val (l := l) e i u c h2 (h i u c h1 h2)
 | .ptr _ _, _, e, _ => by cases e
 | .ep _ _, _, e, _ => by cases e
 | .rp _ _ _ _, _, e, _ => by cases e
 | .row _ _, _, e, _ => by cases e
 | .fn _ _, _, e, _ => by cases e
 | .gd _ _, _, e, _ => by cases e
 | .bad, _, e, _ => by cases e
theorem flatL_val {w w' : World} {i i' : Nat → Prop} {m m' : Nat → Value} : ∀ {l : List AV}, AV.flat.flatL l = true → ∀ (j : Nat) (u : Value) (c : AV), l[j]? = some c → Val w i m u c → Val w' i' m' u c
 | [], _, j, u, c, hc, _ => by simp at hc
 | x :: l, e, j, u, c, hc, h => by
  simp only [AV.flat.flatL, Bool.and_eq_true] at e
  cases j with
  | zero => cases hc; exact flat_val e.1 h
  | succ j => exact flatL_val e.2 j u c (by simpa using hc) h
end
end
def resL (P : Program) (s : St) : List ResultVar → Option (List AV)
 | [] => some []
 | .tmp t :: l => match resL P s l with
  | some r => some (s.look (.tmp t) :: r)
  | none => none
 | .cell a t :: l => match s.look (.tmp a), resL P s l with
  | .ptr o off, some r => match effLoad P s.hp.get t (.ptr o off) with
   | some e => some (e.val :: r)
   | none => none
  | _, _ => none
def resV (tmps : Array Value) : ResultVar → Sem Value
 | .tmp t => pure (tmps.getD t undef)
 | .cell x t => do loadVar t (← asAddr (tmps.getD x undef))
def one : List AV → AV
 | [c] => c
 | l => .tup l
def retQ (P : Program) (fn : Func) (res : AV) : Exit → St → Prop
 | .ret, s | .normal, s => match resL P s fn.results.toList with
  | some l => match fz s.hp.get (one l) with
   | some (c, _) => Sub c res
   | none => False
  | none => False
 | _, _ => False
section
variable {P : Program} {Γ : Gam} {C : Ctx} {m : Nat → Value} {w : World} {a : Act} {s : St} {D : Array Oper → St → (St → Prop) → Prop}
theorem results_ok (S : Sat C m s a w) : ∀ (rs : List ResultVar) (l : List AV), resL P s rs = some l → ∃ vs : List Value, (rs.mapM (resV a.tmps)).run P w = .ok vs w ∧
  vs.length = l.length ∧ ∀ (i : Nat) (u : Value) (c : AV), vs[i]? = some u → l[i]? = some c → Val w (im C m w s.hp) m u c
 | [], l, h => by cases h; exact ⟨[], by simp, rfl, by simp⟩
 | .tmp t :: rs, l, h => by
  simp only [resL] at h
  split at h
  ·rename_i r hr
   cases h
   obtain ⟨vs, h1, h2, h3⟩ := results_ok S rs r hr
   refine ⟨a.tmps.getD t undef :: vs, by simp only [List.mapM_cons, resV, Sem.run_bind, Sem.run_pure, Result.andThen_ok, h1], by simp [h2], fun i u c e1 e2 => ?_⟩
   cases i with
   | zero => cases e1; cases e2; exact S.operands (.tmp t)
   | succ i => exact h3 i u c (by simpa using e1) (by simpa using e2)
  ·cases h
 | .cell x t :: rs, l, h => by
  simp only [resL] at h
  split at h
  ·rename_i o off r hx hr
   split at h
   ·rename_i e he
    cases h
    obtain ⟨vs, h1, h2, h3⟩ := results_ok S rs r hr
    have hv := S.operands (.tmp x)
    rw [hx] at hv
    have hsc : e.sc := by
     simp only [effLoad] at he
     split at he
     ·split at he
      ·split at he
       ·cases he; trivial
       ·cases he
      ·split at he
       ·cases he; trivial
       ·cases he
     ·cases he
    obtain ⟨v, w', m', q1, q2, q3, q4, q5⟩ := effLoad_ok (P := P) (d := 0) S.inv he hsc hv
    have hup : e.up = [] ∧ w' = w ∧ e.new = false := by
     generalize hu : a.eval (.tmp x) = u at hv q1
     cases hv with
     | @ptr _ _ b hm =>
     simp only [Instr.loadAt, Instr.sureAddr, Sem.run_bind, Sem.run_pure, Result.andThen_ok] at q1
     have keep : ∀ (s : Sem Value) (v : Value) (w' : World), True := fun _ _ _ => trivial
     simp only [effLoad] at he
     split at he
     ·rename_i T ety cs hT ho
      obtain ⟨b', us, g1, g2, g3, g4, g5⟩ := S.inv.live o _ ho
      rw [hm] at g1
      cases g1
      have hcell : ∀ j, j < us.size → w.cell? ⟨b, j, none⟩ = some (us.getD j default) := fun j hj => by simp [World.cell?, g2, hj]
      have hload := fun n (hn : off + n ≤ cs.length) => load_cells (P := P) (w := w) hT (a := ⟨b, off, none⟩) (us := fun j => us.getD (off + j) default) n
      simp only [Instr.loadAt, Instr.sureAddr, Sem.run_bind, Sem.run_pure, Result.andThen_ok] at hload
      split at he
      ·rename_i ha
       split at he
       ·rename_i hle
        cases he
        rw [hload T.sz hle (fun _ => Nat.le_refl _) (fun e => by rw [ha] at e; cases e) (fun j hj => by rw [addr_eta _ rfl]; exact hcell (off + j) (by omega))] at q1
        cases q1
        exact ⟨rfl, rfl, rfl⟩
       ·cases he
      ·rename_i ha
       split at he
       ·rename_i hlt
        cases he
        rw [hload 1 hlt (fun e => absurd e ha) (fun _ => Nat.one_pos) (fun j hj => by rw [addr_eta _ rfl]; exact hcell (off + j) (by omega))] at q1
        cases q1
        exact ⟨rfl, rfl, rfl⟩
       ·cases he
     ·cases he
    obtain ⟨g1, rfl, g3⟩ := hup
    generalize hu : a.tmps.getD x undef = u at *
    have hua : a.eval (.tmp x) = u := hu
    rw [hua] at hv q1
    cases hv with
    | @ptr _ _ b hm =>
    simp only [Instr.loadAt, Instr.sureAddr, Sem.run_bind, Sem.run_pure, Result.andThen_ok] at q1
    have hm' : m' = m := by funext i; exact q2 i (by rw [g3]; intro h; cases h)
    rw [g1, hm'] at q4
    refine ⟨v :: vs, by simp only [List.mapM_cons, resV, Sem.run_bind, Sem.run_pure, Result.andThen_ok, h1, asAddr, hu, q1], by simp [h2], fun i u c e1 e2 => ?_⟩
    cases i with
    | zero => cases e1; cases e2; exact q4
    | succ i => exact h3 i u c (by simpa using e1) (by simpa using e2)
   ·cases h
  ·cases h
theorem results_run {fn : Func} {tmps : Array Value} {vs : List Value} (h : (fn.results.toList.mapM (resV tmps)).run P w = .ok vs w) : (results fn tmps).run P w = .ok (if h : vs.toArray.size = 1 then vs.toArray[0] else .tuple vs.toArray) w := by
 have hm : (fn.results.mapM (resV tmps)).run P w = .ok vs.toArray w := by
  rw [Array.mapM_eq_mapM_toList, Sem.run_map, h]
  rfl
 have e : results fn tmps = (fn.results.mapM (resV tmps) >>= fun vs => pure (if h : vs.size = 1 then vs[0] else .tuple vs)) := by
  unfold results
  congr
 rw [e, Sem.run_bind, hm]
 rfl
theorem one_val {im : Nat → Prop} {vs : List Value} {l : List AV} (hn : vs.length = l.length) (h : ∀ (i : Nat) (u : Value) (c : AV), vs[i]? = some u → l[i]? = some c → Val w im m u c) : Val w im m (if h : vs.toArray.size = 1 then vs.toArray[0] else .tuple vs.toArray) (one l) := by
 match vs, l, hn with
 | [], [], _ => exact .tup rfl (by simp)
 | [v], [c], _ => exact h 0 v c rfl rfl
 | v :: v' :: vs, c :: c' :: l, hn =>
  rw [dif_neg (by simp)]
  exact .tup (by simpa using hn) fun i u c h1 h2 => h i u c (by simpa using h1) h2
def Calm (P : Program) (g : Nat) (args : List AV) (res : AV) : Prop :=
 (∃ fn, P.funcs[g]? = some fn ∧ (fn.name == "runtime.NumGoroutine") = false ∧ fn.body.isNone = false) ∧ res.ids = [] ∧
 ∀ (C : Ctx) (m : Nat → Value) (w : World) (hp : Hp) (vals : Array Value), Inv C m w hp → vals.size = args.length →
  (∀ (i : Nat) (u : Value) (c : AV), vals[i]? = some u → args[i]? = some c → Val w (im C m w hp) m u c) → Calls P g vals w fun en w' => ∃ v, en = .returned v ∧ w'.os = w.os ∧ w'.tape = w.tape ∧ w'.output = w.output ∧ w.heap.size ≤ w'.heap.size ∧
   (∀ k, k < w.heap.size → w'.heap[k]? = w.heap[k]?) ∧ Val w' (im C m w' hp) m v res
def startL : Nat → List AV → List (Nat × AV)
 | _, [] => []
 | i, c :: l => (i, c) :: startL (i + 1) l
theorem startL_lookup : ∀ (l : List AV) (i t : Nat) (c : AV), (startL i l).lookup t = some c → i ≤ t ∧ l[t - i]? = some c
 | [], _, _, _, h => by cases h
 | x :: l, i, t, c, h => by
  rw [startL, lookup_cons] at h
  split at h
  ·rename_i e; cases h; subst e; simp
  ·obtain ⟨h1, h2⟩ := startL_lookup l (i + 1) t c h
   refine ⟨by omega, ?_⟩
   rw [show t - i = (t - (i + 1)) + 1 by omega, List.getElem?_cons_succ]
   exact h2
def Body (P : Program) (Γ : Gam) (D : Array Oper → St → (St → Prop) → Prop) (g : Nat) (args : List AV) (res : AV) : Prop :=
 ∃ fn c, P.funcs[g]? = some fn ∧ (fn.name == "runtime.NumGoroutine") = false ∧ fn.body = some c ∧ (args.length ≤ fn.ntmps ∧ fn.ntmps ≤ 10000) ∧ wpc P Γ D c (retQ P fn res) { n := fn.ntmps, used := [], sl := startL 0 args, hp := [] }
theorem Body.calm (hG : Gok P Γ) (hD : DrawOk P Γ D) {g : Nat} {args : List AV} {res : AV} (hids : AV.ids.idsL args = []) (hres : res.ids = []) (h : Body P Γ D g args res) : Calm P g args res := by
 obtain ⟨fn, c, h1, h2, h3, h4, h5⟩ := h
 refine ⟨⟨fn, h1, h2, by rw [h3]; rfl⟩, hres, fun C m w hp vals I hsz hv => ?_⟩
 let C' : Ctx := ⟨w, fun _ => False, im C m w hp, fun b hb => hb.1, fun _ _ h => h, m, I.tab⟩
 have him : ∀ b, im C m w hp b → im C' m w [] b ∧ w.heap[b]? = w.heap[b]? := fun b hb => ⟨⟨hb.1, .inl hb, fun o obj ho => by simp [Hp.get] at ho⟩, rfl⟩
 have I' : Inv C' m w [] := ⟨rfl, rfl, rfl, Nat.le_refl _, fun _ _ _ => rfl, fun o obj ho => by simp [Hp.get] at ho, fun o o' obj obj' b ho => by simp [Hp.get] at ho, fun o obj b ho => by simp [Hp.get] at ho⟩
 have S : Sat C' m { n := fn.ntmps, used := [], sl := startL 0 args, hp := [] } { tmps := vals ++ Array.replicate (fn.ntmps - vals.size) undef, defers := [] } w := by
  refine ⟨I', by simp; omega, rfl, fun t c hl => ?_, fun o obj ho => by simp [Hp.get] at ho, h4.2, fun _ _ => rfl⟩
  obtain ⟨_, hc⟩ := startL_lookup args 0 t c hl
  simp only [Nat.sub_zero] at hc
  have ht : t < vals.size := by rw [hsz]; exact (List.getElem?_eq_some_iff.1 hc).1
  have hcm := idsL_nil hids c (List.mem_of_getElem? hc)
  refine ⟨?_, fun i hi => by rw [hcm] at hi; cases hi⟩
  have e : (vals ++ Array.replicate (fn.ntmps - vals.size) undef).getD t undef = vals.getD t undef := by
   simp [Array.getElem?_append, ht]
  simp only [e]
  exact (hv t _ c (by simp [ht]) hc).mono him (fun _ _ => rfl)
 refine calls_of_wp h1 h3 (wp_mono (wpc_ok hG hD c _ _ m _ w h5 S) fun e a' w' hq => ?_)
 obtain ⟨s', m', S', hq⟩ := hq
 have fin : retQ P fn res .ret s' → a'.defers = [] ∧ ∃ v, (results fn a'.tmps).run P w' = .ok v w' ∧ ∃ v', Ending.returned v = .returned v' ∧ w'.os = w.os ∧ w'.tape = w.tape ∧ w'.output = w.output ∧ w.heap.size ≤ w'.heap.size ∧
   (∀ k, k < w.heap.size → w'.heap[k]? = w.heap[k]?) ∧ Val w' (im C m w' hp) m v' res := fun hq => by
  refine ⟨S'.defers, ?_⟩
  unfold retQ at hq
  simp only at hq
  split at hq
  case h_2 => exact hq.elim
  rename_i l hl
  split at hq
  case h_2 => exact hq.elim
  rename_i c' k hc'
  obtain ⟨vs, q1, q2, q3⟩ := results_ok S' _ l hl
  have hone := one_val q2 q3
  have hfz := fz_val S'.inv (drops_sub k s'.hp) hc' (fun o ho => by rw [drops_get, if_pos ho]) hone
  replace hfz := hfz.sub hq
  have hsame : ∀ k, k < w.heap.size → w'.heap[k]? = w.heap[k]? := fun k hk => S'.inv.frame k hk (fun h => h)
  obtain ⟨Iw, _⟩ := I.ext S'.inv.os S'.inv.tape S'.inv.output S'.inv.size hsame
  refine ⟨_, results_run q1, _, rfl, S'.inv.os, S'.inv.tape, S'.inv.output, S'.inv.size, hsame, hfz.mono (fun b hb => ⟨?_, rfl⟩) (fun i hi => by rw [hres] at hi; cases hi)⟩
  obtain ⟨b1, b2, _⟩ := hb
  rcases b2 with b2 | b2 | b2
  ·exact ⟨b1, b2.2.1, b2.2.2⟩
  ·exact b2.elim
  ·have b2 : w.heap.size ≤ b := b2
   refine ⟨b1, .inr (.inr (Nat.le_trans I.size b2)), fun o obj ho e => ?_⟩
   have := (I.live o obj ho).blk_lt b e
   omega
 cases e with
 | normal => exact fin hq
 | ret => exact fin hq
 | _ => exact hq.elim
def calmE (F : List AV → Option (Prop × AV)) (h : Nat → Option AObj) (args : List AV) : Option Eff :=
 match fz.fzL h args with
 | some (l, k) => match F l with
  | some (sc, res) => some { sc := sc, val := res, up := if res.flat then [] else drops k }
  | none => none
 | none => none
def Gam.add (Γ : Gam) (g0 : Nat) (F : List AV → Option (Prop × AV)) : Gam := fun g h d args => if g = g0 then calmE F h args else Γ g h d args
theorem Gok.add (hG : Gok P Γ) {g0 : Nat} {F : List AV → Option (Prop × AV)} (hF : ∀ args sc res, F args = some (sc, res) → sc → AV.ids.idsL args = [] → Calm P g0 args res) : Gok P (Γ.add g0 F) := by
 intro g h d args e he hsc C m w hp vals hh I hsz hv hf
 unfold Gam.add at he
 split at he
 case isFalse => exact hG g h d args e he hsc C m w hp vals hh I hsz hv hf
 rename_i hg
 subst hg
 subst hh
 unfold calmE at he
 split at he
 case h_2 => cases he
 rename_i l k hl
 split at he
 case h_2 => cases he
 rename_i sc res hr
 cases he
 obtain ⟨hen, hres, hc⟩ := hF l sc res hr hsc (fzL_ids hl)
 refine ⟨hen, ?_⟩
 have hsub := drops_sub k hp
 obtain ⟨I1, k1⟩ := I.drop hsub
 refine (hc C m w (drops k ++ hp) vals I1 (by rw [hsz, fzL_length hl]) (fun i u c h1 h2 => ?_)).mono fun en w' ⟨v, q1, q2, q3, q4, q5, q6, q7⟩ => ?_
 ·refine fzL_val I hsub hl (fun o ho => by rw [drops_get, if_pos ho]) i u c h2 fun c0 h0 => hv i u c0 h1 h0
 ·refine ⟨v, q1, m, fun _ _ => rfl, ?_⟩
  by_cases hfl : res.flat = true
  ·obtain ⟨I2, k2⟩ := I.ext q2 q3 q4 q5 q6
   simp only [hfl, if_true, List.nil_append]
   exact ⟨I2, flat_val hfl q7, k2⟩
  ·obtain ⟨I2, k2⟩ := I1.ext q2 q3 q4 q5 q6
   simp only [hfl, if_false]
   exact ⟨I2, q7, fun b hb => ⟨(k2 b (k1 b hb).1).1, (k2 b (k1 b hb).1).2⟩⟩
def Gam.none : Gam := fun _ _ _ _ => Option.none
theorem Gok.none : Gok P Gam.none := fun _ _ _ _ _ h => by cases h
end
end Go.Proofs.Ytgbialeahdoelaa.Eng

end

section
namespace Go.Proofs.Ytgbialeahdoelaa.Eng
open Go
def St.eqv (s t : St) : Prop := s.n = t.n ∧ (∀ i, i ∈ s.used ↔ i ∈ t.used) ∧ (∀ i, s.sl.lookup i = t.sl.lookup i) ∧ ∀ o, s.hp.get o = t.hp.get o
theorem St.eqv.refl (s : St) : s.eqv s := ⟨rfl, fun _ => Iff.rfl, fun _ => rfl, fun _ => rfl⟩
theorem St.eqv.symm {s t : St} (h : s.eqv t) : t.eqv s := ⟨h.1.symm, fun i => (h.2.1 i).symm, fun i => (h.2.2.1 i).symm, fun o => (h.2.2.2 o).symm⟩
theorem St.eqv.trans {s t r : St} (h : s.eqv t) (k : t.eqv r) : s.eqv r := ⟨h.1.trans k.1, fun i => (h.2.1 i).trans (k.2.1 i), fun i => (h.2.2.1 i).trans (k.2.2.1 i), fun o => (h.2.2.2 o).trans (k.2.2.2 o)⟩
theorem im_congr {C : Ctx} {m : Nat → Value} {w : World} {hp hp' : Hp} (h : ∀ o, hp.get o = hp'.get o) : im C m w hp = im C m w hp' := by
 funext b
 simp only [im, h]
theorem Sat.eqv {C : Ctx} {m : Nat → Value} {s t : St} {a : Act} {w : World} (S : Sat C m s a w) (h : s.eqv t) : Sat C m t a w := by
 obtain ⟨h1, h2, h3, h4⟩ := h
 have e := im_congr (C := C) (m := m) (w := w) h4
 refine ⟨⟨S.inv.os, S.inv.tape, S.inv.output, S.inv.size, S.inv.frame, fun o obj ho => ?_, fun o o' x x' b ho ho' => ?_, fun o x b ho => ?_⟩, by rw [S.size, h1], S.defers, fun i c hl => ?_, fun o obj ho => ?_, by rw [← h1]; exact S.small, S.pin⟩
 ·rw [← e]; exact S.inv.live o obj (by rw [h4]; exact ho)
 ·exact S.inv.sep o o' x x' b (by rw [h4]; exact ho) (by rw [h4]; exact ho')
 ·exact S.inv.own o x b (by rw [h4]; exact ho)
 ·rw [← e]
  obtain ⟨q1, q2⟩ := S.slots i c (by rw [h3]; exact hl)
  exact ⟨q1, fun j hj => (h2 j).1 (q2 j hj)⟩
 ·obtain ⟨q1, q2⟩ := S.heap o obj (by rw [h4]; exact ho)
  exact ⟨(h2 o).1 q1, fun j hj => (h2 j).1 (q2 j hj)⟩
def Agree (l : List Nat) (h h' : Nat → Option AObj) : Prop := ∀ i ∈ l, h i = h' i
theorem toD_loc {h h' : Nat → Option AObj} : ∀ {c : AV}, Agree c.ids h h' → toD h c = toD h' c := fun {c} ha => by
 cases c <;> simp only [toD]
 rw [ha _ (by simp [AV.ids])]
theorem toDs_loc {h h' : Nat → Option AObj} : ∀ {l : List AV}, Agree (AV.ids.idsL l) h h' → toDs h l = toDs h' l
 | [], _ => rfl
 | c :: l, ha => by
  simp only [toDs]
  rw [toD_loc (c := c) (fun i hi => ha i (by simp [AV.ids.idsL, hi])), toDs_loc (l := l) (fun i hi => ha i (by simp [AV.ids.idsL, hi]))]
theorem cells_ids {c : AV} : ∀ i ∈ AV.ids.idsL c.cells, i ∈ c.ids := fun i hi => by
 cases c <;> simp_all [AV.cells, AV.ids, AV.ids.idsL]
mutual
theorem fz_loc {h h' : Nat → Option AObj} : ∀ {c : AV}, Agree c.ids h h' → fz h c = fz h' c
 | .d x, _ => rfl
 | .row o n, ha => by simp only [fz]; rw [ha o (by simp [AV.ids])]
 | .agg l, ha => by simp only [fz]; rw [fzL_loc ha]
 | .tup l, ha => by simp only [fz]; rw [fzL_loc ha]
 | .fn f l, ha => by simp only [fz]; rw [fzL_loc ha]
 | .ptr o off, ha => by simp only [fz]; rw [ha o (by simp [AV.ids])]
 | .ep _ _, _ => rfl
 | .rp _ _ _ _, _ => rfl
 | .gd _ _, _ => rfl
 | .bad, _ => rfl
theorem fzL_loc {h h' : Nat → Option AObj} : ∀ {l : List AV}, Agree (AV.ids.idsL l) h h' → fz.fzL h l = fz.fzL h' l
 | [], _ => rfl
 | c :: l, ha => by
  simp only [fz.fzL]
  rw [fz_loc (c := c) (fun i hi => ha i (by simp [AV.ids.idsL, hi])), fzL_loc (l := l) (fun i hi => ha i (by simp [AV.ids.idsL, hi]))]
end
def Gloc (Γ : Gam) : Prop := ∀ g d args h h', Agree (AV.ids.idsL args) h h' → Γ g h d args = Γ g h' d args
theorem Gloc.none : Gloc Gam.none := fun _ _ _ _ _ _ => rfl
theorem Gloc.add {Γ : Gam} (h : Gloc Γ) (g0 : Nat) (F : List AV → Option (Prop × AV)) : Gloc (Γ.add g0 F) := fun g d args h1 h2 ha => by
 unfold Gam.add
 split
 ·unfold calmE; rw [fzL_loc ha]
 ·exact h g d args h1 h2 ha
theorem effLoad_loc {P : Program} {t : Nat} {h h' : Nat → Option AObj} {c : AV} (ha : Agree c.ids h h') : effLoad P h t c = effLoad P h' t c := by
 cases c <;> simp only [effLoad] <;> rw [ha _ (by simp [AV.ids])]
theorem effStore_loc {P : Program} {t : Nat} {h h' : Nat → Option AObj} {c x : AV} (ha : Agree (c.ids ++ x.ids) h h') : effStore P h t c x = effStore P h' t c x := by
 cases c <;> simp only [effStore]
 ·rw [ha _ (by simp [AV.ids])]
 ·rw [ha _ (by simp [AV.ids]), toDs_loc (fun i hi => ha i (List.mem_append.2 (.inr (cells_ids i hi))))]
theorem effIndexAddr_loc {P : Program} {t : Nat} {h h' : Nat → Option AObj} {c x : AV} (ha : Agree (c.ids ++ x.ids) h h') : effIndexAddr P h t c x = effIndexAddr P h' t c x := by
 unfold effIndexAddr
 split
 ·rfl
 ·rw [ha _ (by simp [AV.ids])]
 ·rfl
 ·rfl
 ·rfl
 ·rfl
theorem effSlice_loc {P : Program} {d t : Nat} {h h' : Nat → Option AObj} {c : AV} {lo hi : Option AV} (ha : Agree c.ids h h') : effSlice P h d t c lo hi = effSlice P h' d t c lo hi := by
 unfold effSlice
 split
 ·rfl
 ·rfl
 ·rw [ha _ (by simp [AV.ids])]
 ·rw [ha _ (by simp [AV.ids])]
 ·rfl
theorem effConv_loc {P : Program} {s t : Nat} {h h' : Nat → Option AObj} {c : AV} (ha : Agree c.ids h h') : effConv P h s t c = effConv P h' s t c := by
 unfold effConv
 split
 ·split <;> try rfl
  all_goals rw [ha _ (by simp [AV.ids])]
 ·rfl
theorem srcOf_loc {P : Program} {sz tx : Nat} {h h' : Nat → Option AObj} {c : AV} (ha : Agree c.ids h h') : srcOf P h sz tx c = srcOf P h' sz tx c := by
 unfold srcOf
 split
 ·rw [ha _ (by simp [AV.ids])]
 all_goals rfl
theorem effAppend_loc {P : Program} {d t tx : Nat} {h h' : Nat → Option AObj} {c x : AV} (ha : Agree (c.ids ++ x.ids) h h') : effAppend P h d t tx c x = effAppend P h' d t tx c x := by
 have e : ∀ sz, srcOf P h sz tx x = srcOf P h' sz tx x := fun sz => srcOf_loc fun i hi => ha i (List.mem_append.2 (.inr hi))
 cases c with
 | row o n => simp only [effAppend, e]; rw [ha _ (by simp [AV.ids])]
 | d y =>
  simp only [effAppend, e]
  cases sliceOf P t with
  | none => rfl
  | some p =>
   simp only
   cases srcOf P h' p.2.sz tx x with
   | none => rfl
   | some ys =>
    simp only
    split
    ·rfl
    ·cases y with
     | sl _ _ => rfl
     | v u =>
      cases u <;> try rfl
      rename_i a n k
      cases a <;> cases n <;> cases k <;> rfl
 | _ => simp only [effAppend, e]
theorem fillA_ids (place : Nat → Option (Nat × Nat)) : ∀ (parts : List (Nat × AV)) (cs cs' : List AV), fillA place cs parts = some cs' → ∀ i ∈ AV.ids.idsL cs', i ∈ AV.ids.idsL cs ∨ ∃ p ∈ parts, i ∈ p.2.ids
 | [], cs, cs', h, i, hi => by cases h; exact .inl hi
 | (j, x) :: rest, cs, cs', h, i, hi => by
  simp only [fillA] at h
  split at h
  ·split at h
   ·rcases fillA_ids place rest _ _ h i hi with h1 | ⟨p, h1, h2⟩
    ·have app : ∀ (l k : List AV), AV.ids.idsL (l ++ k) = AV.ids.idsL l ++ AV.ids.idsL k := fun l k => by
      induction l with
      | nil => rfl
      | cons a l ih => simp [AV.ids.idsL, ih]
     have tk : ∀ (n : Nat) (l : List AV), ∀ i ∈ AV.ids.idsL (l.take n), i ∈ AV.ids.idsL l := fun n l i hi => by
      have := app (l.take n) (l.drop n)
      rw [List.take_append_drop] at this
      rw [this]; exact List.mem_append.2 (.inl hi)
     have dp : ∀ (n : Nat) (l : List AV), ∀ i ∈ AV.ids.idsL (l.drop n), i ∈ AV.ids.idsL l := fun n l i hi => by
      have := app (l.take n) (l.drop n)
      rw [List.take_append_drop] at this
      rw [this]; exact List.mem_append.2 (.inr hi)
     rw [put, app, app] at h1
     rcases List.mem_append.1 h1 with h1 | h1
     ·rcases List.mem_append.1 h1 with h1 | h1
      ·exact .inl (tk _ _ i h1)
      ·exact .inr ⟨(j, x), List.mem_cons_self, cells_ids i h1⟩
     ·exact .inl (dp _ _ i h1)
    ·exact .inr ⟨p, List.mem_cons_of_mem _ h1, h2⟩
   ·cases h
  ·cases h
theorem effBuildSlice_loc {P : Program} {d t n : Nat} {h h' : Nat → Option AObj} {parts : List (Nat × AV)} (ha : ∀ p ∈ parts, Agree p.2.ids h h') : effBuildSlice P h d t n parts = effBuildSlice P h' d t n parts := by
 unfold effBuildSlice
 split
 ·rename_i e E hE
  split
  ·split
   ·rename_i cs hcs
    have : toDs h cs = toDs h' cs := toDs_loc fun i hi => by
     rcases fillA_ids _ _ _ _ hcs i hi with h1 | ⟨p, h1, h2⟩
     ·exfalso
      have no : ∀ (f : Nat → Value) (n off : Nat), AV.ids.idsL (seg (fun i => AV.d (.v (f i))) off n) = [] := fun f n => by
       induction n with
       | zero => intro off; rfl
       | succ n ih => intro off; simp [seg, AV.ids.idsL, AV.ids, ih]
      rw [no (fun i => E.z.getD (i % E.sz) default)] at h1
      cases h1
     ·exact ha p h1 i h2
    rw [this]
   ·rfl
  ·rfl
 ·rfl
def opIds (look : Operand → AV) (o : Op) : List Nat := AV.ids.idsL (o.operands.toList.map look)
theorem opIds_mem {look : Operand → AV} {o : Op} {x : Operand} (h : x ∈ o.operands) : ∀ i ∈ (look x).ids, i ∈ opIds look o := fun i hi => by
 have h2 : look x ∈ o.operands.toList.map look := List.mem_map.2 ⟨x, by simpa using h, rfl⟩
 obtain ⟨k, hk, e⟩ := List.getElem_of_mem h2
 exact idsL_mem (List.getElem?_eq_getElem hk) i (by rw [e]; exact hi)
theorem eff_loc {P : Program} {look : Operand → AV} {d : Nat} {o : Op} {h h' : Nat → Option AObj} (ha : Agree (opIds look o) h h') : eff P h look d o = eff P h' look d o := by
 have on : ∀ x, x ∈ o.operands → Agree (look x).ids h h' := fun x hx i hi => ha i (opIds_mem hx i hi)
 have on2 : ∀ x y, x ∈ o.operands → y ∈ o.operands → Agree ((look x).ids ++ (look y).ids) h h' := fun x y hx hy i hi => (List.mem_append.1 hi).elim (on x hx i) (on y hy i)
 cases o <;> try rfl
 case buildSlice t n parts =>
  exact effBuildSlice_loc fun p hp => by
   obtain ⟨q, hq, rfl⟩ := List.mem_map.1 hp
   exact on _ (by simp only [Op.operands]; simp; exact ⟨q.1, by simpa using hq⟩)
 case load t x => exact effLoad_loc (on _ (by simp [Op.operands]))
 case store t x y => exact effStore_loc (on2 _ _ (by simp [Op.operands]) (by simp [Op.operands]))
 case convert s t x => exact effConv_loc (on _ (by simp [Op.operands]))
 case slice t x lo hi mx =>
  cases mx with
  | none => exact effSlice_loc (on _ (by simp [Op.operands]))
  | some _ => rfl
 case indexAddr t x i => exact effIndexAddr_loc (on2 _ _ (by simp [Op.operands]) (by simp [Op.operands]))
 case makeFunc fn first caps => cases fn <;> rfl
 case call c =>
  obtain ⟨cal, args, ts⟩ := c
  cases cal with
  | builtin b =>
   obtain ⟨args⟩ := args
   simp only [eff, effCall]
   split <;> try rfl
   rename_i t tx s x hts hl
   rw [effAppend_loc]
   intro i hi
   refine ha i ?_
   simp only [opIds, Op.operands, Call.operands, Array.empty_append]
   rw [hl]
   simpa [AV.ids.idsL] using hi
  | _ => rfl
end Go.Proofs.Ytgbialeahdoelaa.Eng

end

section
namespace Go.Proofs.Ytgbialeahdoelaa.Eng
open Go
set_option linter.unusedVariables false
set_option linter.unusedSimpArgs false
structure Info where
 r : List Nat
 w : List Nat
 v : List Nat
def keys (hp : Hp) : List Nat := hp.map (·.1)
def Eff.none? (e : Eff) : Bool := e.up.isEmpty && !e.new
def opF (P : Program) (Γ : Gam) (ops : Array Oper) (o : Oper) (s : St) : Option (Prop × Info × St) :=
 match o.guard with
 | none => match s.effOf P Γ (o.dst.getD 0) o.op with
  | some e => if s.okB o e = true then some (e.sc, ⟨opIds s.look o.op, keys e.up ++ (if e.new then [o.dst.getD 0] else []), e.val.ids ++ upIds e.up⟩, s.upd o e) else none
  | none => none
 | some (j, want) => match s.guard ops j, o.dst with
  | some b, some d => match (s.at (gOf b want)).effOf P Γ d o.op with
   | some e => if e.none? = true ∧ d < s.n ∧ subL e.val.ids s.used = true then some (allB (gOf b want) = true → e.sc, ⟨opIds (s.at (gOf b want)).look o.op, [], e.val.ids⟩, { s with sl := (d, .gd (gOf b want) e.val) :: s.sl })
    else if e.none? = false ∧ allB (gOf b want) = true ∧ s.okB o e = true then some (e.sc, ⟨opIds (s.at (gOf b want)).look o.op, keys e.up ++ (if e.new then [o.dst.getD 0] else []), e.val.ids ++ upIds e.up⟩, s.upd o e)
    else if e.none? = false ∧ allB (gOf b want) = false ∧ d < s.n then some (True, ⟨opIds (s.at (gOf b want)).look o.op, [], []⟩, { s with sl := (d, .gd (gOf b want) .bad) :: s.sl }) else none
   | none => if allB (gOf b want) = false ∧ d < s.n then some (True, ⟨opIds (s.at (gOf b want)).look o.op, [], []⟩, { s with sl := (d, .gd (gOf b want) .bad) :: s.sl }) else none
  | _, _ => none
section
variable {P : Program} {Γ : Gam} {ops : Array Oper} {o : Oper} {s t : St}
theorem opF_runOp {p : Prop} {i : Info} {s1 : St} (h : opF P Γ ops o s = some (p, i, s1)) (hp : p) {K : St → Prop} (hK : K s1) : runOp P Γ ops o s K := by
 unfold opF at h
 unfold runOp
 split at h
 ·rename_i hg
  split at h
  ·rename_i e he
   split at h
   ·rename_i hok
    cases h
    simp only [hg, he]
    exact ⟨hok, hp, hK⟩
   ·cases h
  ·cases h
 ·rename_i j want hg
  split at h
  ·rename_i b d hb hd
   split at h
   ·rename_i e he
    split at h
    ·rename_i hc
     cases h
     obtain ⟨c1, c2, c3⟩ := hc
     simp only [hg, hb, hd, he]
     rw [show (e.up.isEmpty && !e.new) = true from c1]
     exact ⟨c2, c3, hp, hK⟩
    ·split at h
     ·rename_i hc
      cases h
      obtain ⟨c1, c2, c3⟩ := hc
      simp only [hg, hb, hd, he]
      rw [show (e.up.isEmpty && !e.new) = false from c1]
      refine ⟨?_, by rw [if_pos c2]; exact ⟨c3, hp, hK⟩⟩
      simp only [St.okB, Bool.and_eq_true, hd, decide_eq_true_eq] at c3
      exact c3.1.1
     ·split at h
      ·rename_i hc
       cases h
       obtain ⟨c1, c2, c3⟩ := hc
       simp only [hg, hb, hd, he]
       rw [show (e.up.isEmpty && !e.new) = false from c1]
       exact ⟨c3, by rw [if_neg (by rw [c2]; decide)]; exact hK⟩
      ·cases h
   ·rename_i he
    split at h
    ·rename_i hc
     cases h
     simp only [hg, hb, hd, he]
     exact ⟨hc.2, hc.1, hK⟩
    ·cases h
  ·cases h
theorem look_eqv (h : s.eqv t) : s.look = t.look := by
 funext x
 cases x with
 | tmp i => show (s.sl.lookup i).getD .bad = (t.sl.lookup i).getD .bad; rw [h.2.2.1]
 | _ => rfl
theorem effOf_same (h1 : s.look = t.look) (h2 : s.hp.get = t.hp.get) (d : Nat) (op : Op) : s.effOf P Γ d op = t.effOf P Γ d op := by
 unfold St.effOf
 rw [h1, h2]
theorem contains_eqv (h : s.eqv t) (d : Nat) : s.used.contains d = t.used.contains d := by
 rw [Bool.eq_iff_iff]
 simp [h.2.1]
theorem subL_congr {l u u' : List Nat} (h : ∀ i ∈ l, i ∈ u → i ∈ u') (hs : subL l u = true) : subL l u' = true :=
 List.all_eq_true.2 fun i hi => by simpa using h i hi (subL_mem hs i hi)
theorem guard_same {j : Nat} (h : ∀ d, (ops[j]?).bind (·.dst) = some d → s.sl.lookup d = t.sl.lookup d) : s.guard ops j = t.guard ops j := by
 unfold St.guard
 cases hd : (ops[j]?).bind (·.dst) with
 | none => rfl
 | some d => show boolOf ((s.sl.lookup d).getD .bad) = boolOf ((t.sl.lookup d).getD .bad); rw [h d hd]
theorem at_eqv (h : s.eqv t) (g : List Bool) : (s.at g).eqv (t.at g) := ⟨h.1, h.2.1, fun i => by simp only [St.at, lookup_map, h.2.2.1], h.2.2.2⟩
theorem upd_eqv (h : s.eqv t) (o : Oper) (e : Eff) : (s.upd o e).eqv (t.upd o e) := by
 refine ⟨h.1, fun i => ?_, fun i => ?_, fun i => ?_⟩
 ·simp only [St.upd]; split <;> simp [h.2.1]
 ·simp only [St.upd]
  cases o.dst with
  | none => exact h.2.2.1 i
  | some d => simp only [lookup_cons, h.2.2.1]
 ·simp only [St.upd]
  generalize e.up = up
  induction up with
  | nil => exact h.2.2.2 i
  | cons p up ih => obtain ⟨a, x⟩ := p; simp only [List.cons_append, Hp.get_cons, ih]
theorem okB_eqv (h : s.eqv t) (o : Oper) (e : Eff) (hok : s.okB o e = true) : t.okB o e = true := by
 simp only [St.okB, Bool.and_eq_true] at hok ⊢
 obtain ⟨⟨k1, k2⟩, k3⟩ := hok
 refine ⟨⟨by rw [← h.1]; exact k1, by rw [← contains_eqv h]; exact k2⟩, subL_congr (fun i _ hi => ((upd_eqv h o e).2.1 i).1 hi) k3⟩
theorem opF_eqv (h : s.eqv t) {p : Prop} {i : Info} {s1 : St} (hs : opF P Γ ops o s = some (p, i, s1)) : ∃ t1, opF P Γ ops o t = some (p, i, t1) ∧ s1.eqv t1 := by
 unfold opF at hs ⊢
 split at hs
 ·rename_i hg
  have he' := effOf_same (P := P) (Γ := Γ) (look_eqv h) (funext h.2.2.2) (o.dst.getD 0) o.op
  rw [he'] at hs
  split at hs
  ·rename_i e he
   split at hs
   ·rename_i hok
    cases hs
    simp only [hg, he, okB_eqv h o e hok, if_true, look_eqv h]
    exact ⟨_, rfl, upd_eqv h o e⟩
   ·cases hs
  ·cases hs
 ·rename_i j want hg
  have hgd := guard_same (s := s) (t := t) (ops := ops) (j := j) fun d _ => h.2.2.1 d
  rw [hgd] at hs
  split at hs
  ·rename_i b d hb hd
   have he' := effOf_same (P := P) (Γ := Γ) (look_eqv (at_eqv h (gOf b want))) (funext h.2.2.2) d o.op
   rw [he', look_eqv (at_eqv h _)] at hs
   split at hs
   ·rename_i e he
    split at hs
    ·rename_i hc
     cases hs
     have hc' : e.none? = true ∧ d < t.n ∧ subL e.val.ids t.used = true := ⟨hc.1, h.1 ▸ hc.2.1, subL_congr (fun i _ hi => (h.2.1 i).1 hi) hc.2.2⟩
     simp only [hg, hb, hd, he, if_pos hc']
     exact ⟨_, rfl, ⟨h.1, h.2.1, fun i => by simp only [lookup_cons, h.2.2.1], h.2.2.2⟩⟩
    ·split at hs
     ·rename_i hc
      cases hs
      have nA : ¬ (e.none? = true ∧ d < t.n ∧ subL e.val.ids t.used = true) := fun q => by rw [hc.1] at q; cases q.1
      simp only [hg, hb, hd, he, if_neg nA, if_pos (show e.none? = false ∧ allB (gOf b want) = true ∧ t.okB o e = true from ⟨hc.1, hc.2.1, okB_eqv h o e hc.2.2⟩)]
      exact ⟨_, rfl, upd_eqv h o e⟩
     ·split at hs
      ·rename_i hc
       cases hs
       have nA : ¬ (e.none? = true ∧ d < t.n ∧ subL e.val.ids t.used = true) := fun q => by rw [hc.1] at q; cases q.1
       have nB : ¬ (e.none? = false ∧ allB (gOf b want) = true ∧ t.okB o e = true) := fun q => by rw [hc.2.1] at q; cases q.2.1
       simp only [hg, hb, hd, he, if_neg nA, if_neg nB, if_pos (show e.none? = false ∧ allB (gOf b want) = false ∧ d < t.n from ⟨hc.1, hc.2.1, h.1 ▸ hc.2.2⟩)]
       exact ⟨_, rfl, ⟨h.1, h.2.1, fun i => by simp only [lookup_cons, h.2.2.1], h.2.2.2⟩⟩
      ·cases hs
   ·rename_i he
    split at hs
    ·rename_i hc
     cases hs
     simp only [hg, hb, hd, he, if_pos (show allB (gOf b want) = false ∧ d < t.n from ⟨hc.1, h.1 ▸ hc.2⟩)]
     exact ⟨_, rfl, ⟨h.1, h.2.1, fun i => by simp only [lookup_cons, h.2.2.1], h.2.2.2⟩⟩
    ·cases hs
  ·cases hs
theorem effOf_loc (hL : Gloc Γ) (op : Op) (d : Nat) (h1 : ∀ x ∈ op.operands, s.look x = t.look x) (h2 : Agree (opIds s.look op) s.hp.get t.hp.get) : s.effOf P Γ d op = t.effOf P Γ d op ∧ opIds s.look op = opIds t.look op := by
 have hids : opIds s.look op = opIds t.look op := by
  unfold opIds
  congr 1
  exact List.map_congr_left fun x hx => h1 x (by simpa using hx)
 refine ⟨?_, hids⟩
 have heff : eff P s.hp.get s.look d op = eff P t.hp.get t.look d op := by
  rw [eff_loc h2]
  have pairs : ∀ parts : Array (Nat × Operand), (∀ p ∈ parts, p.2 ∈ op.operands) → parts.toList.map (fun p => (p.1, s.look p.2)) = parts.toList.map fun p => (p.1, t.look p.2) := fun parts hp =>
   List.map_congr_left fun p hm => by rw [h1 p.2 (hp p (by simpa using hm))]
  have args : ∀ args : Array Operand, (∀ x ∈ args, x ∈ op.operands) → args.toList.map s.look = args.toList.map t.look := fun args hp =>
   List.map_congr_left fun x hm => h1 x (hp x (by simpa using hm))
  have opt : ∀ x : Option Operand, (∀ y, x = some y → y ∈ op.operands) → x.map s.look = x.map t.look := fun x hx => by cases x with | none => rfl | some y => simp [h1 y (hx y rfl)]
  cases op <;> simp only [eff]
  case move x => rw [h1 x (by simp [Op.operands])]
  case assign x => rw [h1 x (by simp [Op.operands])]
  case pick a b c => rw [h1 a (by simp [Op.operands]), h1 b (by simp [Op.operands]), h1 c (by simp [Op.operands])]
  case box e x => rw [h1 x (by simp [Op.operands])]
  case build t parts => rw [pairs parts (fun p hp => by simp only [Op.operands]; simp; exact ⟨p.1, by simpa using hp⟩)]
  case buildSlice t n parts => rw [pairs parts (fun p hp => by simp only [Op.operands]; simp; exact ⟨p.1, by simpa using hp⟩)]
  case load t x => rw [h1 x (by simp [Op.operands])]
  case store t x y => rw [h1 x (by simp [Op.operands]), h1 y (by simp [Op.operands])]
  case nilCheck x => rw [h1 x (by simp [Op.operands])]
  case binOp op t x y yt => rw [h1 x (by simp [Op.operands]), h1 y (by simp [Op.operands])]
  case unOp op t x => rw [h1 x (by simp [Op.operands])]
  case convert s t x => rw [h1 x (by simp [Op.operands])]
  case makeFunc fn first caps =>
   cases fn <;> simp only
   rw [args caps (fun x hx => by simp only [Op.operands]; simp [hx])]
  case makeSlice t x y => rw [h1 x (by simp [Op.operands]), h1 y (by simp [Op.operands])]
  case slice ty x lo hi mx =>
   cases mx with
   | some _ => rfl
   | none =>
    simp only
    rw [h1 x (by simp [Op.operands]), opt lo (fun y hy => by subst hy; simp [Op.operands]), opt hi (fun y hy => by subst hy; simp [Op.operands])]
  case fieldAddr s x f => rw [h1 x (by simp [Op.operands])]
  case field s x f => rw [h1 x (by simp [Op.operands])]
  case indexAddr t x i => rw [h1 x (by simp [Op.operands]), h1 i (by simp [Op.operands])]
  case index t x i => rw [h1 x (by simp [Op.operands]), h1 i (by simp [Op.operands])]
  case extract x i => rw [h1 x (by simp [Op.operands])]
  case call c =>
   obtain ⟨cal, as1, ts⟩ := c
   cases cal with
   | builtin b => simp only; rw [args as1 (fun x hx => by simp [Op.operands, Call.operands, hx])]
   | _ => rfl
 cases op <;> try exact heff
 case call c =>
  obtain ⟨cal, as1, ts⟩ := c
  cases cal with
  | value f =>
   have hf := h1 f (by simp [Op.operands, Call.operands])
   have ha : as1.toList.map s.look = as1.toList.map t.look := List.map_congr_left fun x hm => h1 x (by simp only [Op.operands, Call.operands]; simp; exact .inr (by simpa using hm))
   simp only [St.effOf]
   rw [← hf, ← ha]
   cases hl : s.look f with
   | fn g caps =>
    simp only
    refine hL g d _ _ _ fun i hi => h2 i ?_
    simp only [opIds, Op.operands, Call.operands]
    have app : ∀ (l k : List AV), AV.ids.idsL (l ++ k) = AV.ids.idsL l ++ AV.ids.idsL k := fun l k => by
     induction l with
     | nil => rfl
     | cons a l ih => simp [AV.ids.idsL, ih]
    rw [app] at hi
    simp only [Array.toList_append, List.map_append, app, List.mem_append] at hi ⊢
    rcases hi with hi | hi
    ·exact .inr hi
    ·refine .inl ?_
     simp only [List.map_cons, List.map_nil, hl, AV.ids.idsL, AV.ids, List.append_nil]
     exact hi
   | _ => rfl
  | _ => exact heff
end
end Go.Proofs.Ytgbialeahdoelaa.Eng

end

section
namespace Go.Proofs.Ytgbialeahdoelaa.Eng
open Go
set_option linter.unusedVariables false
set_option linter.unusedSimpArgs false
def disj (a b : List Nat) : Bool := a.all fun i => !b.contains i
theorem disj_spec {a b : List Nat} (h : disj a b = true) : ∀ i ∈ a, i ∉ b := fun i hi hb => by
 have := List.all_eq_true.1 h i hi
 simp [hb] at this
def good (ops : Array Oper) (oy ox : Oper) (iy ix : Info) : Bool := oy.apart ops ox && disj iy.w (ix.r ++ ix.w ++ ix.v) && disj ix.w (iy.r ++ iy.v)
def dstL (o : Oper) (c : AV) : List (Nat × AV) := match o.dst with | some d => [(d, c)] | none => []
def ext (t : St) (o : Oper) (U : List Nat) (c : AV) (H : Hp) : St := { n := t.n, used := U ++ t.used, sl := dstL o c ++ t.sl, hp := H ++ t.hp }
theorem get_app {H hp : Hp} {i : Nat} (h : i ∉ keys H) : Hp.get (H ++ hp) i = hp.get i := by
 induction H with
 | nil => rfl
 | cons p H ih =>
  obtain ⟨a, x⟩ := p
  simp only [keys, List.map_cons, List.mem_cons, not_or] at h
  rw [List.cons_append, Hp.get_cons, if_neg h.1]
  exact ih h.2
theorem get_app_in {H hp hp' : Hp} {i : Nat} (h : i ∈ keys H) : Hp.get (H ++ hp) i = Hp.get (H ++ hp') i := by
 induction H with
 | nil => cases h
 | cons p H ih =>
  obtain ⟨a, x⟩ := p
  rw [List.cons_append, List.cons_append, Hp.get_cons, Hp.get_cons]
  by_cases e : i = a
  ·rw [if_pos e, if_pos e]
  ·rw [if_neg e, if_neg e]
   refine ih ?_
   simp only [keys, List.map_cons, List.mem_cons] at h
   exact h.resolve_left e
section
variable {P : Program} {Γ : Gam} {ops : Array Oper} {o : Oper} {s t : St}
theorem looks_operand {x : Operand} (hx : x ∈ o.op.operands) (h : ∀ d ∈ o.looksAt ops, s.sl.lookup d = t.sl.lookup d) : s.look x = t.look x := by
 cases x with
 | tmp d =>
  show (s.sl.lookup d).getD .bad = (t.sl.lookup d).getD .bad
  rw [h d (List.mem_append_left _ (List.mem_filterMap.2 ⟨.tmp d, by simpa using hx, rfl⟩))]
 | _ => rfl
theorem opF_move (hL : Gloc Γ) {p : Prop} {i : Info} {s1 : St} (h : opF P Γ ops o s = some (p, i, s1)) : ∃ U c H, s1 = ext s o U c H ∧ (∀ k ∈ keys H, k ∈ i.w) ∧ (∀ k ∈ U, k ∈ i.w ∧ k ∉ s.used ∧ o.dst = some k) ∧
  ∀ t : St, t.n = s.n → (∀ d ∈ o.looksAt ops, s.sl.lookup d = t.sl.lookup d) → Agree i.r s.hp.get t.hp.get → (∀ k ∈ U, k ∉ t.used) → (∀ k ∈ i.v, k ∈ s.used → k ∈ t.used) → opF P Γ ops o t = some (p, i, ext t o U c H) := by
 unfold opF at h
 split at h
 ·rename_i hg
  split at h
  case h_2 => cases h
  rename_i e he
  split at h
  case isFalse => cases h
  rename_i hok
  cases h
  have hok' := hok
  simp only [St.okB, Bool.and_eq_true] at hok'
  obtain ⟨⟨k1, k2⟩, k3⟩ := hok'
  have hnew : e.new = true → o.dst = some (o.dst.getD 0) ∧ o.dst.getD 0 ∉ s.used := fun hn => by
   refine ⟨?_, fun hm => ?_⟩
   ·cases hd : o.dst with
    | none => rw [hd] at k1; simp [hn] at k1
    | some d => rfl
   ·simp [hn, hm] at k2
  have hupd : ∀ t : St, t.upd o e = ext t o (if e.new then [o.dst.getD 0] else []) e.val e.up := fun t => by
   simp only [St.upd, ext, dstL]
   congr 1
   ·cases e.new <;> rfl
   ·cases o.dst <;> rfl
  refine ⟨_, _, _, hupd s, fun k hk => List.mem_append.2 (.inl hk), fun k hk => ?_, fun t h1 h2 h3 h4 h5 => ?_⟩
  ·cases hn : e.new with
   | false => rw [hn] at hk; cases hk
   | true =>
    rw [hn] at hk
    obtain ⟨q1, q2⟩ := hnew hn
    simp only [if_true, List.mem_singleton] at hk
    subst hk
    exact ⟨by simp [hn], q2, q1⟩
  ·obtain ⟨q1, q2⟩ := effOf_loc (P := P) hL (t := t) o.op (o.dst.getD 0) (fun x hx => looks_operand hx h2) h3
   have hok2 : t.okB o e = true := by
    simp only [St.okB, Bool.and_eq_true]
    refine ⟨⟨by rw [h1]; exact k1, ?_⟩, ?_⟩
    ·cases hn : e.new with
     | false => rfl
     | true =>
      have := h4 (o.dst.getD 0) (by simp [hn])
      simpa using this
    ·refine subL_congr (fun j hj hu => ?_) k3
     rw [hupd] at hu ⊢
     simp only [ext, List.mem_append] at hu ⊢
     exact hu.imp id (h5 j hj)
   unfold opF
   simp only [hg]
   rw [← q1, he]
   simp only [hok2, if_true, ← q2, hupd t]
 ·rename_i j want hg
  split at h
  case h_2 => cases h
  rename_i b d hb hd
  have hgd : ∀ t : St, (∀ d ∈ o.looksAt ops, s.sl.lookup d = t.sl.lookup d) → s.guard ops j = t.guard ops j := fun t h2 => guard_same fun d hd => h2 d (by
   refine List.mem_append_right _ ?_
   rw [hg]
   simp [hd])
  have hat : ∀ t : St, (∀ d ∈ o.looksAt ops, s.sl.lookup d = t.sl.lookup d) → ∀ d ∈ o.looksAt ops, (s.at (gOf b want)).sl.lookup d = (t.at (gOf b want)).sl.lookup d := fun t h2 d hd => by
   simp only [St.at, lookup_map, h2 d hd]
  have hloc : ∀ t : St, (∀ d ∈ o.looksAt ops, s.sl.lookup d = t.sl.lookup d) → Agree (opIds (s.at (gOf b want)).look o.op) s.hp.get t.hp.get → _ := fun t h2 h3 => effOf_loc (P := P) hL (s := s.at (gOf b want)) (t := t.at (gOf b want)) o.op d (fun x hx => looks_operand hx (hat t h2)) h3
  split at h
  ·rename_i e he
   split at h
   ·rename_i hc
    cases h
    refine ⟨[], .gd (gOf b want) e.val, [], by simp [ext, dstL, hd], fun k hk => hk, (fun k hk => nomatch hk), fun t h1 h2 h3 _ h5 => ?_⟩
    obtain ⟨q1, q2⟩ := hloc t h2 h3
    have hc' : e.none? = true ∧ d < t.n ∧ subL e.val.ids t.used = true := ⟨hc.1, by rw [h1]; exact hc.2.1, subL_congr (fun j hj hu => h5 j hj hu) hc.2.2⟩
    unfold opF
    simp only [hg]
    rw [← hgd t h2, hb, hd]
    simp only
    rw [← q1, he]
    simp only [if_pos hc', ← q2]
    simp [ext, dstL, hd]
   ·split at h
    ·rename_i hc
     cases h
     obtain ⟨c1, c2, hok⟩ := hc
     have hok' := hok
     simp only [St.okB, Bool.and_eq_true] at hok'
     obtain ⟨⟨k1, k2⟩, k3⟩ := hok'
     have hnew : e.new = true → o.dst = some (o.dst.getD 0) ∧ o.dst.getD 0 ∉ s.used := fun hn => by
      refine ⟨by rw [hd]; rfl, fun hm => ?_⟩
      simp [hn, hm] at k2
     have hupd : ∀ t : St, t.upd o e = ext t o (if e.new then [o.dst.getD 0] else []) e.val e.up := fun t => by
      simp only [St.upd, ext, dstL]
      congr 1
      ·cases e.new <;> rfl
      ·cases o.dst <;> rfl
     refine ⟨_, _, _, hupd s, fun k hk => List.mem_append.2 (.inl hk), fun k hk => ?_, fun t h1 h2 h3 h4 h5 => ?_⟩
     ·cases hn : e.new with
      | false => rw [hn] at hk; cases hk
      | true =>
       rw [hn] at hk
       obtain ⟨q1, q2⟩ := hnew hn
       simp only [if_true, List.mem_singleton] at hk
       subst hk
       exact ⟨by simp [hn], q2, q1⟩
     ·obtain ⟨q1, q2⟩ := hloc t h2 h3
      have hok2 : t.okB o e = true := by
       simp only [St.okB, Bool.and_eq_true]
       refine ⟨⟨by rw [h1]; exact k1, ?_⟩, ?_⟩
       ·cases hn : e.new with
        | false => rfl
        | true =>
         have := h4 (o.dst.getD 0) (by simp [hn])
         simpa using this
       ·refine subL_congr (fun j hj hu => ?_) k3
        rw [hupd] at hu ⊢
        simp only [ext, List.mem_append] at hu ⊢
        exact hu.imp id (h5 j hj)
      unfold opF
      simp only [hg]
      rw [← hgd t h2, hb]
      have nA : ¬ (e.none? = true ∧ d < t.n ∧ subL e.val.ids t.used = true) := fun q => by rw [c1] at q; cases q.1
      rw [hd] at hupd ⊢
      simp only
      rw [← q1, he]
      simp only [if_neg nA, if_pos (show e.none? = false ∧ allB (gOf b want) = true ∧ t.okB o e = true from ⟨c1, c2, hok2⟩), ← q2, hupd t]
    ·split at h
     ·rename_i hc
      cases h
      refine ⟨[], .gd (gOf b want) .bad, [], by simp [ext, dstL, hd], fun k hk => hk, (fun k hk => nomatch hk), fun t h1 h2 h3 _ h5 => ?_⟩
      obtain ⟨q1, q2⟩ := hloc t h2 h3
      have nA : ¬ (e.none? = true ∧ d < t.n ∧ subL e.val.ids t.used = true) := fun q => by rw [hc.1] at q; cases q.1
      have nB : ¬ (e.none? = false ∧ allB (gOf b want) = true ∧ t.okB o e = true) := fun q => by rw [hc.2.1] at q; cases q.2.1
      unfold opF
      simp only [hg]
      rw [← hgd t h2, hb, hd]
      simp only
      rw [← q1, he]
      simp only [if_neg nA, if_neg nB, if_pos (show e.none? = false ∧ allB (gOf b want) = false ∧ d < t.n from ⟨hc.1, hc.2.1, by rw [h1]; exact hc.2.2⟩), ← q2]
      simp [ext, dstL, hd]
     ·cases h
  ·rename_i he
   split at h
   ·rename_i hc
    cases h
    refine ⟨[], .gd (gOf b want) .bad, [], by simp [ext, dstL, hd], fun k hk => hk, (fun k hk => nomatch hk), fun t h1 h2 h3 _ h5 => ?_⟩
    obtain ⟨q1, q2⟩ := hloc t h2 h3
    unfold opF
    simp only [hg]
    rw [← hgd t h2, hb, hd]
    simp only
    rw [← q1, he]
    simp only [if_pos (show allB (gOf b want) = false ∧ d < t.n from ⟨hc.1, by rw [h1]; exact hc.2⟩), ← q2]
    simp [ext, dstL, hd]
   ·cases h
theorem lookup_dstL {d : Nat} {c : AV} {l : List (Nat × AV)} (h : o.dst ≠ some d) : (dstL o c ++ l).lookup d = l.lookup d := by
 unfold dstL
 cases hd : o.dst with
 | none => rfl
 | some e =>
  simp only [List.cons_append, List.nil_append, lookup_cons]
  rw [if_neg (fun e0 => h (by rw [hd, e0]))]
theorem swap (hL : Gloc Γ) {oy ox : Oper} {p q : Prop} {iy ix : Info} {s1 s2 : St} (hy : opF P Γ ops oy s = some (p, iy, s1)) (hx : opF P Γ ops ox s1 = some (q, ix, s2)) (hg : good ops oy ox iy ix = true) :
  ∃ t1 t2, opF P Γ ops ox s = some (q, ix, t1) ∧ opF P Γ ops oy t1 = some (p, iy, t2) ∧ s2.eqv t2 := by
 simp only [good, Bool.and_eq_true] at hg
 obtain ⟨⟨g1, g2⟩, g3⟩ := hg
 have d2 := disj_spec g2
 have d3 := disj_spec g3
 obtain ⟨a1, a2, a3⟩ := Oper.apart_spec g1
 obtain ⟨Uy, cy, Hy, rfl, y1, y2, y3⟩ := opF_move hL hy
 obtain ⟨Ux, cx, Hx, rfl, x1, x2, x3⟩ := opF_move hL hx
 have hx' := x3 s rfl (fun d hd => lookup_dstL (fun e => a1 d e hd)) (fun k hk => get_app fun hk' => d2 k (y1 k hk') (by simp [hk])) (fun k hk hs => (x2 k hk).2.1 (List.mem_append.2 (.inr hs)))
  (fun k hk hs => by
   rcases List.mem_append.1 hs with h | h
   ·exact absurd (by simp [hk]) (d2 k (y2 k h).1)
   ·exact h)
 have hy' := y3 (ext s ox Ux cx Hx) rfl (fun d hd => (lookup_dstL (fun e => a3 d e hd)).symm) (fun k hk => (get_app fun hk' => d3 k (x1 k hk') (by simp [hk])).symm)
  (fun k hk hs => by
   rcases List.mem_append.1 hs with h | h
   ·exact a2 k (y2 k hk).2.2 (x2 k h).2.2
   ·exact (y2 k hk).2.1 h)
  (fun k _ hs => List.mem_append.2 (.inr hs))
 refine ⟨_, _, hx', hy', rfl, fun i => ?_, fun i => ?_, fun i => ?_⟩
 ·simp only [ext, List.mem_append]
  constructor <;> intro h <;> rcases h with h | h | h <;> simp [h]
 ·show (dstL ox cx ++ (dstL oy cy ++ s.sl)).lookup i = (dstL oy cy ++ (dstL ox cx ++ s.sl)).lookup i
  by_cases h1 : ox.dst = some i
  ·have h2 : oy.dst ≠ some i := fun h => a2 i h h1
   rw [lookup_dstL h2]
   simp only [dstL, h1, List.cons_append, List.nil_append, lookup_cons, if_true]
  ·rw [lookup_dstL h1]
   by_cases h2 : oy.dst = some i
   ·simp only [dstL, h2, List.cons_append, List.nil_append, lookup_cons, if_true]
   ·rw [lookup_dstL h2, lookup_dstL h2, lookup_dstL h1]
 ·show Hp.get (Hx ++ (Hy ++ s.hp)) i = Hp.get (Hy ++ (Hx ++ s.hp)) i
  by_cases h1 : i ∈ keys Hx
  ·have h2 : i ∉ keys Hy := fun h => d2 i (y1 i h) (by simp [x1 i h1])
   rw [get_app h2]
   exact get_app_in h1
  ·rw [get_app h1]
   by_cases h2 : i ∈ keys Hy
   ·exact get_app_in h2
   ·rw [get_app h2, get_app h2, get_app h1]
def Tr (P : Program) (Γ : Gam) (ops : Array Oper) (I : Nat → Info) : List Nat → St → St → Prop
 | [], s, e => s.eqv e
 | i :: L, s, e => ∃ o p s1, ops[i]? = some o ∧ opF P Γ ops o s = some (p, I i, s1) ∧ p ∧ Tr P Γ ops I L s1 e
variable {I : Nat → Info}
theorem Tr.eqv : ∀ {L : List Nat} {s t e : St}, s.eqv t → Tr P Γ ops I L s e → Tr P Γ ops I L t e
 | [], s, t, e, h, k => h.symm.trans k
 | i :: L, s, t, e, h, ⟨o, p, s1, h1, h2, h3, h4⟩ => by
  obtain ⟨t1, h5, h6⟩ := opF_eqv h h2
  exact ⟨o, p, t1, h1, h5, h3, Tr.eqv h6 h4⟩
theorem Tr.front (hL : Gloc Γ) {i : Nat} {L2 : List Nat} : ∀ {L1 : List Nat} {s e : St}, (∀ y ∈ L1, ∀ oy oi, ops[y]? = some oy → ops[i]? = some oi → good ops oy oi (I y) (I i) = true) → Tr P Γ ops I (L1 ++ i :: L2) s e → Tr P Γ ops I (i :: (L1 ++ L2)) s e
 | [], _, _, _, h => h
 | y :: L1, s, e, hg, ⟨oy, p, s1, h1, h2, h3, h4⟩ => by
  obtain ⟨oi, q, s2, k1, k2, k3, k4⟩ := Tr.front hL (fun z hz => hg z (List.mem_cons_of_mem _ hz)) h4
  obtain ⟨t1, t2, m1, m2, m3⟩ := swap hL h2 k2 (hg y List.mem_cons_self oy oi h1 k1)
  exact ⟨oi, q, t1, k1, m1, k3, oy, p, t2, h1, m2, h3, k4.eqv m3⟩
inductive Reach (ops : Array Oper) : Nat → Nat → Prop where
 | dir {x : Nat} {ox : Oper} {ed : Edge} (h : ops[x]? = some ox) (he : ed ∈ ox.after) (hb : Region.binds .any ed = true) : Reach ops x ed.on
 | via {x y : Nat} {ox : Oper} {ed : Edge} (h : ops[x]? = some ox) (he : ed ∈ ox.after) (hb : Region.binds .any ed = true) (r : Reach ops ed.on y) : Reach ops x y
def mrg (a : List Nat) : List Nat → List Nat
 | [] => a
 | y :: l => mrg (if a.contains y then a else y :: a) l
theorem mem_mrg : ∀ {a l : List Nat} {y : Nat}, y ∈ mrg a l → y ∈ a ∨ y ∈ l
 | a, [], y, h => .inl h
 | a, z :: l, y, h => by
  rcases mem_mrg (l := l) h with h | h
  ·split at h
   ·exact .inl h
   ·rcases List.mem_cons.1 h with rfl | h
    ·exact .inr List.mem_cons_self
    ·exact .inl h
  ·exact .inr (List.mem_cons_of_mem _ h)
def cloE (c : List (List Nat)) : List Edge → List Nat → List Nat
 | [], acc => acc
 | e :: l, acc => cloE c l (if Region.binds .any e then mrg acc (e.on :: c.getD e.on []) else acc)
def clo : List Oper → List (List Nat) → List (List Nat)
 | [], c => c
 | o :: os, c => clo os (c ++ [cloE c o.after.toList []])
theorem mem_cloE {c : List (List Nat)} {y : Nat} : ∀ {l : List Edge} {acc : List Nat}, y ∈ cloE c l acc → y ∈ acc ∨ ∃ e ∈ l, Region.binds .any e = true ∧ (y = e.on ∨ y ∈ c.getD e.on [])
 | [], acc, h => .inl h
 | e :: l, acc, h => by
  rcases mem_cloE (l := l) h with h | ⟨e', h1, h2⟩
  ·split at h
   ·rename_i hb
    rcases mem_mrg h with h | h
    ·exact .inl h
    ·exact .inr ⟨e, List.mem_cons_self, hb, List.mem_cons.1 h⟩
   ·exact .inl h
  ·exact .inr ⟨e', List.mem_cons_of_mem _ h1, h2⟩
theorem clo_reach {ops : Array Oper} : ∀ (os pre : List Oper) (c : List (List Nat)), ops.toList = pre ++ os → c.length = pre.length → (∀ x y, y ∈ c.getD x [] → Reach ops x y) → ∀ x y, y ∈ (clo os c).getD x [] → Reach ops x y
 | [], pre, c, _, _, h, x, y, hy => h x y hy
 | o :: os, pre, c, ho, hl, h, x, y, hy => by
  refine clo_reach os (pre ++ [o]) (c ++ [cloE c o.after.toList []]) (by simp [ho]) (by simp [hl]) (fun x y hy => ?_) x y hy
  rw [List.getD_eq_getElem?_getD, List.getElem?_append] at hy
  split at hy
  ·rw [← List.getD_eq_getElem?_getD] at hy
   exact h x y hy
  ·rename_i hx
   by_cases e : x = c.length
   ·subst e
    rw [Nat.sub_self] at hy
    have hox : ops[c.length]? = some o := by rw [← Array.getElem?_toList, ho, hl, List.getElem?_append_right (Nat.le_refl _)]; simp
    rcases mem_cloE hy with hy | ⟨ed, h1, h2, h3⟩
    ·cases hy
    ·rcases h3 with rfl | h3
     ·exact .dir hox (by simpa using h1) h2
     ·exact .via hox (by simpa using h1) h2 (h _ _ h3)
   ·rw [List.getElem?_eq_none (by simp; omega)] at hy
    cases hy
def Cl (ops : Array Oper) (listed : Array Bool) : Prop := ∀ x ox, ops[x]? = some ox → listed.getD x false = true → ∀ ed ∈ ox.after, Region.binds .any ed = true → listed.getD ed.on false = true
theorem Reach.listed {ops : Array Oper} {listed : Array Bool} (hc : Cl ops listed) {x y : Nat} (r : Reach ops x y) : ∀ {ox : Oper}, ops[x]? = some ox → (∀ ed ∈ ox.after, Region.binds .any ed = true → listed.getD ed.on false = true) → listed.getD y false = true := by
 induction r with
 | dir h he hb =>
  intro ox h0 h1
  rw [h] at h0; cases h0
  exact h1 _ he hb
 | via h he hb r ih =>
  intro ox h0 h1
  rw [h] at h0; cases h0
  have h2 := h1 _ he hb
  cases r with
  | dir hz _ _ => exact ih hz (hc _ _ hz h2)
  | via hz _ _ _ => exact ih hz (hc _ _ hz h2)
def pairsOk (ops : Array Oper) (is : List Info) : Bool :=
 (List.range ops.size).all fun x => match ops[x]?, is[x]? with
  | some ox, some ix => (ox.after.all fun e => !Region.binds .any e || decide (e.on < x)) &&
   (List.range x).all fun y => (((clo ops.toList []).getD x []).contains y) || (match ops[y]?, is[y]? with | some oy, some iy => good ops oy ox iy ix | _, _ => false)
  | _, _ => false
theorem any_order (hG : Gok P Γ) (hL : Gloc Γ) {C : Ctx} {e : St} {K : St → Prop} {is : List Info} (hp : pairsOk ops is = true) (hI : ∀ i x, is[i]? = some x → I i = x) {Q : Exit → Act → World → Prop}
  (hQ : ∀ a w s m, Sat C m s a w → s.eqv e → Q .normal a w) : ∀ (fuel : Nat) (listed : Array Bool) (s : St) (m : Nat → Value) (a : Act) (w : World), listed.size = ops.size → Cl ops listed →
   ((List.range ops.size).filter fun i => !listed.getD i true).length ≤ fuel →
   Tr P Γ ops I ((List.range ops.size).filter fun i => !listed.getD i true) s e → Sat C m s a w → wpAny P .any ops Q fuel listed a w := by
 have spec := List.all_eq_true.1 hp
 have rdy : ∀ (listed : Array Bool) (i : Nat), i ∈ Region.ready .any ops listed ↔ i ∈ ((List.range ops.size).filter fun i => !listed.getD i true) ∧ ∃ o, ops[i]? = some o ∧ ∀ ed ∈ o.after, Region.binds .any ed = true → listed.getD ed.on false = true := fun listed i => by
  simp only [Region.ready, List.mem_filter, Bool.and_eq_true]
  constructor
  ·rintro ⟨h1, h2, h3⟩
   refine ⟨⟨h1, h2⟩, ?_⟩
   cases ho : ops[i]? with
   | none => rw [ho] at h3; cases h3
   | some o =>
    rw [ho] at h3
    refine ⟨o, rfl, fun ed hed hb => ?_⟩
    have h3' : (o.after.all fun e => !Region.binds .any e || listed.getD e.on false) = true := h3
    have := (Array.all_eq_true_iff_forall_mem.1 h3') ed hed
    simpa [hb] using this
  ·rintro ⟨⟨h1, h2⟩, o, ho, h3⟩
   refine ⟨h1, h2, ?_⟩
   rw [ho]
   show o.after.all _ = true
   refine Array.all_eq_true_iff_forall_mem.2 fun ed hed => ?_
   cases hb : Region.binds .any ed with
   | false => rfl
   | true => simpa using h3 ed hed hb
 have nonempty : ∀ (listed : Array Bool), listed.size = ops.size → Region.ready .any ops listed = [] → ((List.range ops.size).filter fun i => !listed.getD i true) = [] := fun listed hls h => by
  cases hf : (List.range ops.size).filter fun i => !listed.getD i true with
  | nil => rfl
  | cons x L =>
   exfalso
   have hx : x ∈ (List.range ops.size).filter fun i => !listed.getD i true := by rw [hf]; exact List.mem_cons_self
   have hxr := List.mem_range.1 (List.mem_filter.1 hx).1
   have hsp := spec x (List.mem_range.2 hxr)
   have hmin : ∀ y, y < x → listed.getD y true = true := fun y hy => by
    cases hl : listed.getD y true with
    | true => rfl
    | false =>
     exfalso
     have hy' : y ∈ (List.range ops.size).filter fun i => !listed.getD i true := List.mem_filter.2 ⟨List.mem_range.2 (by omega), by simp [hl]⟩
     have hs : ((List.range ops.size).filter fun i => !listed.getD i true).Pairwise (· < ·) := List.Pairwise.filter _ List.pairwise_lt_range
     rw [hf] at hy' hs
     rcases List.mem_cons.1 hy' with e0 | e0
     ·omega
     ·have := (List.pairwise_cons.1 hs).1 y e0
      omega
   split at hsp
   ·rename_i ox ix hox hix
    simp only [Bool.and_eq_true] at hsp
    have : x ∈ Region.ready .any ops listed := (rdy listed x).2 ⟨hx, ox, hox, fun ed hed hb => by
     have h1 := (Array.all_eq_true_iff_forall_mem.1 hsp.1) ed hed
     simp only [hb, Bool.not_true, Bool.false_or, decide_eq_true_eq] at h1
     have h2 := hmin ed.on h1
     have hlt : ed.on < listed.size ∨ listed.size ≤ ed.on := Nat.lt_or_ge _ _
     rcases hlt with hlt | hlt
     ·simpa [hlt] using h2
     ·omega⟩
    rw [h] at this
    cases this
   ·cases hsp
 intro fuel
 induction fuel with
 | zero =>
  intro listed s m a w hls hcl hlen hT S
  have hnil := List.eq_nil_of_length_eq_zero (Nat.le_zero.1 hlen)
  rw [hnil] at hT
  refine ⟨?_, hQ a w s m S hT⟩
  cases hr : Region.ready .any ops listed with
  | nil => rfl
  | cons i L =>
   have := ((rdy listed i).1 (by rw [hr]; exact List.mem_cons_self)).1
   rw [hnil] at this
   cases this
 | succ fuel ih =>
  intro listed s m a w hls hcl hlen hT S
  refine ⟨fun hr => ?_, fun i hi => ?_⟩
  ·rw [nonempty listed hls hr] at hT
   exact hQ a w s m S hT
  ·obtain ⟨hi1, oi, hoi, hi2⟩ := (rdy listed i).1 hi
   obtain ⟨L1, L2, hsplit⟩ := List.append_of_mem hi1
   have hs : ((List.range ops.size).filter fun i => !listed.getD i true).Pairwise (· < ·) := List.Pairwise.filter _ List.pairwise_lt_range
   rw [hsplit] at hs
   obtain ⟨hs1, hs2, hs3⟩ := List.pairwise_append.1 hs
   have hL1 : ∀ y ∈ L1, y < i := fun y hy => hs3 y hy i List.mem_cons_self
   have hL2 : ∀ y ∈ L2, i < y := fun y hy => (List.pairwise_cons.1 hs2).1 y hy
   have hunl : ∀ y ∈ L1, listed.getD y true = false := fun y hy => by
    have : y ∈ (List.range ops.size).filter fun i => !listed.getD i true := by rw [hsplit]; exact List.mem_append.2 (.inl hy)
    simpa using (List.mem_filter.1 this).2
   rw [hsplit] at hT
   have hsp := spec i (List.mem_filter.1 hi1).1
   have hfront := Tr.front hL (L1 := L1) (L2 := L2) (i := i) (fun y hy oy oi' hoy hoi' => by
    rw [hoi] at hoi'
    cases hoi'
    rw [hoi] at hsp
    split at hsp
    ·rename_i ox ix hox hix
     cases hox
     simp only [Bool.and_eq_true] at hsp
     have h2 := List.all_eq_true.1 hsp.2 y (List.mem_range.2 (hL1 y hy))
     rw [Bool.or_eq_true] at h2
     rcases h2 with h2 | h2
     ·exfalso
      have hre := clo_reach (ops := ops) ops.toList [] [] (by simp) rfl (fun x y hy => by simp at hy) i y (by simpa using h2)
      have h3 := hre.listed hcl hoi hi2
      have h4 := hunl y hy
      have hyl : y < listed.size := by
       have := List.mem_range.1 (List.mem_filter.1 hi1).1
       have := hL1 y hy
       omega
      simp [hyl] at h3 h4
      rw [h3] at h4
      cases h4
     ·rw [hoy] at h2
      split at h2
      ·rename_i oy' iy hoy' hiy
       cases hoy'
       rw [hI y iy hiy, hI i ix hix]
       exact h2
      ·cases h2
    ·cases hsp) hT
   obtain ⟨o, p, s1, ho, hop, hp', hT'⟩ := hfront
   refine runOp_ok hG S ho (opF_runOp hop hp' (K := fun s' => Tr P Γ ops I (L1 ++ L2) s' e) hT') fun a' w' s' m' S' hT'' => ?_
   have hnew : ((List.range ops.size).filter fun j => !(listed.setIfInBounds i true).getD j true) = L1 ++ L2 := by
    have e1 : (fun j => !(listed.setIfInBounds i true).getD j true) = fun j => decide (j ≠ i) && !listed.getD j true := by
     funext j
     by_cases hj : j = i
     ·subst hj
      have : j < listed.size := by have := List.mem_range.1 (List.mem_filter.1 hi1).1; omega
      simp [this]
     ·simp only [Array.getD_eq_getD_getElem?]
      rw [Array.getElem?_setIfInBounds_ne (fun q => hj q.symm)]
      simp [hj]
    rw [e1, ← List.filter_filter, hsplit, List.filter_append, List.filter_cons_of_neg (by simp)]
    congr 1
    ·exact List.filter_eq_self.2 fun y hy => by have := hL1 y hy; simp; omega
    ·exact List.filter_eq_self.2 fun y hy => by have := hL2 y hy; simp; omega
   have hil : i < listed.size := by have := List.mem_range.1 (List.mem_filter.1 hi1).1; omega
   have hset : ∀ j, listed.getD j false = true → (listed.setIfInBounds i true).getD j false = true := fun j hj => by
    by_cases e : j = i
    ·subst e; simp [hil]
    ·simp only [Array.getD_eq_getD_getElem?] at hj ⊢
     rw [Array.getElem?_setIfInBounds_ne (fun q => e q.symm)]; exact hj
   refine ih (listed.setIfInBounds i true) s' m' a' w' (by simpa using hls) (fun x ox hx hxl ed hed hb => ?_) ?_ ?_ S'
   ·by_cases e : x = i
    ·subst e
     rw [hoi] at hx; cases hx
     exact hset _ (hi2 ed hed hb)
    ·refine hset _ (hcl x ox hx ?_ ed hed hb)
     simp only [Array.getD_eq_getD_getElem?] at hxl ⊢
     rw [Array.getElem?_setIfInBounds_ne (fun q => e q.symm)] at hxl; exact hxl
   ·rw [hnew]
    rw [hsplit] at hlen
    simp only [List.length_append, List.length_cons] at hlen ⊢
    omega
   ·rw [hnew]; exact hT''
def runT (P : Program) (Γ : Gam) (ops : Array Oper) : List Oper → List Info → St → (List Info → St → Prop) → Prop
 | [], acc, s, K => K acc s
 | o :: os, acc, s, K => match opF P Γ ops o s with
  | some (p, i, s1) => p ∧ runT P Γ ops os (acc ++ [i]) s1 K
  | none => False
theorem runT_tr {K : List Info → St → Prop} : ∀ (L : List Nat) (os : List Oper) (acc : List Info) (s : St), os.length = L.length → (∀ (k i : Nat) (o : Oper), L[k]? = some i → os[k]? = some o → ops[i]? = some o) → (∀ (k i : Nat), L[k]? = some i → i = acc.length + k) → runT P Γ ops os acc s K →
  ∃ is e, K (acc ++ is) e ∧ is.length = L.length ∧ ∀ I : Nat → Info, (∀ (k : Nat) (x : Info), is[k]? = some x → I (acc.length + k) = x) → Tr P Γ ops I L s e
 | [], [], acc, s, _, _, _, h => ⟨[], s, by rw [List.append_nil]; exact h, rfl, fun _ _ => .refl s⟩
 | i :: L, o :: os, acc, s, hl, ho, hi, h => by
  unfold runT at h
  split at h
  case h_2 => exact h.elim
  rename_i p inf s1 hop
  obtain ⟨hp, h⟩ := h
  obtain ⟨is, e, h1, h2, h3⟩ := runT_tr L os (acc ++ [inf]) s1 (by simpa using hl) (fun k i o e1 e2 => ho (k + 1) i o (by simpa using e1) (by simpa using e2)) (fun k i e1 => by
   have := hi (k + 1) i (by simpa using e1)
   simp only [List.length_append, List.length_singleton]; omega) h
  refine ⟨inf :: is, e, by simpa using h1, by simp [h2], fun I hI => ?_⟩
  have h0 := hi 0 i rfl
  refine ⟨o, p, s1, ho 0 i o rfl rfl, ?_, hp, h3 I fun k x hx => ?_⟩
  ·have := hI 0 inf rfl
   rw [Nat.add_zero] at this h0
   rw [h0, this]
   exact hop
  ·have := hI (k + 1) x (by simpa using hx)
   simp only [List.length_append, List.length_singleton]
   rw [← this]
   congr 1
   omega
 | [], _ :: _, _, _, hl, _, _, _ => by simp at hl
 | _ :: _, [], _, _, hl, _, _, _ => by simp at hl
def DRun (P : Program) (Γ : Gam) : Array Oper → St → (St → Prop) → Prop := fun ops s K => runT P Γ ops ops.toList [] s fun is s' => pairsOk ops is = true ∧ K s'
theorem draw_ok (hm : P.follows .mixedOrders = true) (hG : Gok P Γ) (hL : Gloc Γ) {C : Ctx} {id : Nat} {Q : Exit → St → Prop} {m : Nat → Value} {a : Act} {w : World} (h : DRun P Γ ops s (Q .normal)) (S : Sat C m s a w) : (Code.region id ops true).wp P (Lift C Q) a w := by
 obtain ⟨is, e, ⟨h1, h2⟩, h3, h4⟩ := runT_tr (List.range ops.size) ops.toList [] s (by simp) (fun k i o e1 e2 => by
  rw [Array.getElem?_toList] at e2
  have hk : k < ops.size := (Array.getElem?_eq_some_iff.1 e2).1
  rw [List.getElem?_range hk] at e1
  cases e1
  exact e2) (fun k i e1 => by
   have hk : k < ops.size := by have := (List.getElem?_eq_some_iff.1 e1).1; simpa using this
   rw [List.getElem?_range hk] at e1
   cases e1
   simp) h
 simp only [List.nil_append] at h1 h2
 refine wp_region_any hm ?_
 let I : Nat → Info := fun k => (is[k]?).getD ⟨[], [], []⟩
 have hfil : ((List.range ops.size).filter fun i => !(Array.replicate ops.size false).getD i true) = List.range ops.size := List.filter_eq_self.2 fun i hi => by simp [List.mem_range.1 hi]
 have hdr : Sat C m s a { w with drawn := w.drawn + 1 } := by
  have hmo : ∀ b, im C m w s.hp b → im C m { w with drawn := w.drawn + 1 } s.hp b ∧ ({ w with drawn := w.drawn + 1 } : World).heap[b]? = w.heap[b]? := fun b hb => ⟨hb, rfl⟩
  have hob : ∀ o obj, s.hp.get o = some obj → ObjSat { w with drawn := w.drawn + 1 } (im C m { w with drawn := w.drawn + 1 } s.hp) m o obj := fun o obj ho => (S.inv.live o obj ho).mono hmo (fun _ _ => rfl) rfl (fun _ _ => rfl)
  exact ⟨⟨S.inv.os, S.inv.tape, S.inv.output, S.inv.size, S.inv.frame, hob, S.inv.sep, S.inv.own⟩, S.size, S.defers, fun t c hl => ⟨(S.slots t c hl).1.mono hmo (fun _ _ => rfl), (S.slots t c hl).2⟩, S.heap, S.small, S.pin⟩
 exact any_order hG hL (I := I) (K := Q .normal) h1 (fun i x hx => by show (is[i]?).getD _ = x; rw [hx]; rfl) (e := e) (fun a' w' s' m' S' heq => ⟨e, m', S'.eqv heq, h2⟩) ops.size _ s m a _ (by simp) (fun x ox hx hl => by
  exfalso
  simp only [Array.getD_eq_getD_getElem?, Array.getElem?_replicate] at hl
  split at hl <;> cases hl) (by rw [hfil]; simp) (by rw [hfil]; exact h4 I fun k x hx => by simp only [List.length_nil, Nat.zero_add]; show (is[k]?).getD _ = x; rw [hx]; rfl) hdr
end
end Go.Proofs.Ytgbialeahdoelaa.Eng

end

section
namespace Go.Proofs.Ytgbialeahdoelaa.Eng
open Go
def lk (sl : List (Nat × AV)) : Operand → AV
 | .tmp t => (sl.lookup t).getD .bad
 | .const v => avConst v
 | .func f => .fn f []
 | .global g => match tabL.lookup g with
  | some l => .ep (l.map .v) 0
  | none => .bad
theorem look_mk (n : Nat) (u : List Nat) (sl : List (Nat × AV)) (hp : Hp) : (St.mk n u sl hp).look = lk sl := by funext x; cases x <;> rfl
theorem lk_cons (d t : Nat) (c : AV) (sl : List (Nat × AV)) : lk ((d, c) :: sl) (.tmp t) = if t = d then c else lk sl (.tmp t) := by
 simp only [lk, lookup_cons]
 split <;> rfl
theorem lk_nil (t : Nat) : lk [] (.tmp t) = .bad := rfl
theorem lk_func (sl : List (Nat × AV)) (f : Nat) : lk sl (.func f) = .fn f [] := rfl
theorem lk_int (sl : List (Nat × AV)) (k : IntKind) (n : Int) : lk sl (.const (.int k n)) = .d (.v (.int k n)) := rfl
theorem lk_bool (sl : List (Nat × AV)) (b : Bool) : lk sl (.const (.bool b)) = .d (.v (.bool b)) := rfl
theorem lk_string (sl : List (Nat × AV)) (s : ByteArray) : lk sl (.const (.string s)) = .d (.v (.string s)) := rfl
theorem lk_slice (sl : List (Nat × AV)) (a : Option Addr) (n c : Nat) : lk sl (.const (.slice a n c)) = .d (.v (.slice a n c)) := rfl
theorem lk_agg (sl : List (Nat × AV)) (l : List Value) : lk sl (.const (.agg l.toArray)) = if l.all Value.oneCell' = true then .agg (l.map fun u => .d (.v u)) else .bad := rfl
def goE (n : Nat) (u : List Nat) (sl : List (Nat × AV)) (hp : Hp) (dst : Option Nat) (e : Option Eff) (K : St → Prop) : Prop :=
 match e, dst with
 | some ⟨sc, val, up, false⟩, some d => d < n ∧ subL (val.ids ++ upIds up) u = true ∧ sc ∧ K ⟨n, u, (d, val) :: sl, up ++ hp⟩
 | some ⟨sc, val, up, true⟩, some d => d < n ∧ u.contains d = false ∧ subL (val.ids ++ upIds up) (d :: u) = true ∧ sc ∧ K ⟨n, d :: u, (d, val) :: sl, up ++ hp⟩
 | some ⟨sc, val, up, false⟩, none => subL (val.ids ++ upIds up) u = true ∧ sc ∧ K ⟨n, u, sl, up ++ hp⟩
 | _, _ => False
theorem goE_val (n : Nat) (u : List Nat) (sl : List (Nat × AV)) (hp : Hp) (d : Nat) (sc : Prop) (val : AV) (up : Hp) (K : St → Prop) : goE n u sl hp (some d) (some ⟨sc, val, up, false⟩) K = (d < n ∧ subL (val.ids ++ upIds up) u = true ∧ sc ∧ K ⟨n, u, (d, val) :: sl, up ++ hp⟩) := rfl
theorem goE_new (n : Nat) (u : List Nat) (sl : List (Nat × AV)) (hp : Hp) (d : Nat) (sc : Prop) (val : AV) (up : Hp) (K : St → Prop) : goE n u sl hp (some d) (some ⟨sc, val, up, true⟩) K = (d < n ∧ u.contains d = false ∧ subL (val.ids ++ upIds up) (d :: u) = true ∧ sc ∧ K ⟨n, d :: u, (d, val) :: sl, up ++ hp⟩) := rfl
theorem goE_store (n : Nat) (u : List Nat) (sl : List (Nat × AV)) (hp : Hp) (sc : Prop) (val : AV) (up : Hp) (K : St → Prop) : goE n u sl hp none (some ⟨sc, val, up, false⟩) K = (subL (val.ids ++ upIds up) u = true ∧ sc ∧ K ⟨n, u, sl, up ++ hp⟩) := rfl
section
variable (P : Program) (Γ : Gam) (D : Array Oper → St → (St → Prop) → Prop) (n : Nat) (u : List Nat) (sl : List (Nat × AV)) (hp : Hp) (ops : Array Oper) (K : St → Prop) (Q : Exit → St → Prop)
theorem runOp_none (dst : Option Nat) (op : Op) (ty : Nat) (pos : String) (aft : Array Edge) : runOp P Γ ops ⟨dst, op, ty, pos, aft, none⟩ ⟨n, u, sl, hp⟩ K = goE n u sl hp dst ((St.mk n u sl hp).effOf P Γ (dst.getD 0) op) K := by
 simp only [runOp, goE]
 cases (St.mk n u sl hp).effOf P Γ (dst.getD 0) op with
 | none => cases dst <;> rfl
 | some e =>
  obtain ⟨sc, val, up, new⟩ := e
  cases dst <;> cases new <;> simp [St.okB, St.upd, and_assoc]
def gdL : List Oper → Nat → Option Nat
 | o :: _, 0 => o.dst
 | _ :: os, j + 1 => gdL os j
 | [], _ => none
theorem gdL_eq : ∀ (l : List Oper) (j : Nat), gdL l j = (l[j]?).bind (·.dst)
 | [], _ => by simp [gdL]
 | o :: os, 0 => rfl
 | o :: os, j + 1 => by simp [gdL, gdL_eq os j]
def gdV (sl : List (Nat × AV)) : Option Nat → Option (List Bool × Bool)
 | some t => boolOf (lk sl (.tmp t))
 | none => none
def goG (n : Nat) (u : List Nat) (sl : List (Nat × AV)) (hp : Hp) (d : Nat) (g : List Bool) (e : Option Eff) (K : St → Prop) : Prop :=
 match e with
 | some e => match e.up.isEmpty && !e.new with
  | true => d < n ∧ subL e.val.ids u = true ∧ (allB g = true → e.sc) ∧ K ⟨n, u, (d, .gd g e.val) :: sl, hp⟩
  | false => d < n ∧ if allB g = true then goE n u sl hp (some d) (some e) K else K ⟨n, u, (d, .gd g .bad) :: sl, hp⟩
 | none => d < n ∧ allB g = false ∧ K ⟨n, u, (d, .gd g .bad) :: sl, hp⟩
def goH (n : Nat) (u : List Nat) (sl : List (Nat × AV)) (hp : Hp) (d : Nat) (b : Option (List Bool × Bool)) (want : Bool) (f : List Bool → Option Eff) (K : St → Prop) : Prop :=
 match b with
 | some b => goG n u sl hp d (gOf b want) (f (gOf b want)) K
 | none => False
theorem goG_val (d : Nat) (g : List Bool) (sc : Prop) (val : AV) : goG n u sl hp d g (some ⟨sc, val, [], false⟩) K = (d < n ∧ subL val.ids u = true ∧ (allB g = true → sc) ∧ K ⟨n, u, (d, .gd g val) :: sl, hp⟩) := by simp [goG]
theorem goG_none (d : Nat) (g : List Bool) : goG n u sl hp d g none K = (d < n ∧ allB g = false ∧ K ⟨n, u, (d, .gd g .bad) :: sl, hp⟩) := rfl
theorem goG_new (d : Nat) (g : List Bool) (sc : Prop) (val : AV) (up : Hp) : goG n u sl hp d g (some ⟨sc, val, up, true⟩) K = (d < n ∧ if allB g = true then goE n u sl hp (some d) (some ⟨sc, val, up, true⟩) K else K ⟨n, u, (d, .gd g .bad) :: sl, hp⟩) := by simp [goG]
theorem goG_up (d : Nat) (g : List Bool) (sc : Prop) (val : AV) (p : Nat × Option AObj) (up : Hp) : goG n u sl hp d g (some ⟨sc, val, p :: up, false⟩) K = (d < n ∧ if allB g = true then goE n u sl hp (some d) (some ⟨sc, val, p :: up, false⟩) K else K ⟨n, u, (d, .gd g .bad) :: sl, hp⟩) := by simp [goG]
theorem goH_true (d : Nat) (gs : List Bool) (b : Bool) (f : List Bool → Option Eff) : goH n u sl hp d (some (gs, b)) true f K = goG n u sl hp d (gs ++ [b]) (f (gs ++ [b])) K := rfl
theorem goH_false (d : Nat) (gs : List Bool) (b : Bool) (f : List Bool → Option Eff) : goH n u sl hp d (some (gs, b)) false f K = goG n u sl hp d (gs ++ [!b]) (f (gs ++ [!b])) K := rfl
theorem at_mk (g : List Bool) : (St.mk n u sl hp).at g = ⟨n, u, sl.map fun p => (p.1, unw g p.2), hp⟩ := rfl
theorem runOp_guard (d : Nat) (op : Op) (ty : Nat) (pos : String) (aft : Array Edge) (j : Nat) (want : Bool) (l : List Oper) : runOp P Γ l.toArray ⟨some d, op, ty, pos, aft, some (j, want)⟩ ⟨n, u, sl, hp⟩ K =
  goH n u sl hp d (gdV sl (gdL l j)) want (fun g => ((St.mk n u sl hp).at g).effOf P Γ d op) K := by
 have e : (St.mk n u sl hp).guard l.toArray j = gdV sl (gdL l j) := by
  rw [gdL_eq]
  unfold St.guard gdV
  rw [List.getElem?_toArray, look_mk]
  cases (l[j]?).bind (·.dst) <;> rfl
 simp only [runOp, e, goH, goG]
 cases gdV sl (gdL l j) with
 | none => rfl
 | some b =>
  simp only
  cases (St.at ⟨n, u, sl, hp⟩ (gOf b want)).effOf P Γ d op with
  | none => rfl
  | some ef =>
   simp only
   cases hup : (ef.up.isEmpty && !ef.new) with
   | true => rfl
   | false =>
    obtain ⟨sc, val, up, new⟩ := ef
    cases new <;> simp [goE, St.okB, St.upd, and_assoc]
theorem wpc_cond (t : Nat) (x y : Code) : wpc P Γ D (.cond (.tmp t) x y) Q ⟨n, u, sl, hp⟩ = (match lk sl (.tmp t) with | .d (.v (.bool b)) => if b = true then wpc P Γ D x Q ⟨n, u, sl, hp⟩ else wpc P Γ D y Q ⟨n, u, sl, hp⟩ | _ => False) := by
 simp only [wpc, condS, look_mk]
 cases lk sl (.tmp t) with
 | d x => cases x with
  | v x => cases x <;> rfl
  | sl _ _ => rfl
 | _ => rfl
end
def retR (P : Program) (rs : List ResultVar) (res : AV) : Exit → St → Prop
 | .ret, s | .normal, s => match resL P s rs with
  | some l => match fz s.hp.get (one l) with
   | some (c, _) => Sub c res
   | none => False
  | none => False
 | _, _ => False
theorem Body.of {P : Program} {Γ : Gam} {D : Array Oper → St → (St → Prop) → Prop} {g : Nat} {args : List AV} {res : AV} {fn : Func} {c : Code} {n : Nat} (h1 : P.funcs[g]? = some fn) (hn : fn.ntmps = n) (h2 : (fn.name == "runtime.NumGoroutine") = false) (h3 : fn.body = some c) {rs : List ResultVar} (hr : fn.results = rs.toArray)
  (hl : (Nat.ble args.length n && Nat.ble n 10000) = true) (h : wpc P Γ D c (retR P rs res) ⟨n, [], startL 0 args, []⟩) : Body P Γ D g args res := ⟨fn, c, h1, h2, h3, by rw [hn]; rw [Bool.and_eq_true] at hl; exact ⟨Nat.le_of_ble_eq_true hl.1, Nat.le_of_ble_eq_true hl.2⟩, by
 have hr' : rs = fn.results.toList := by rw [hr]
 have e : retQ P fn res = retR P rs res := by subst hr'; funext e s; cases e <;> rfl
 rw [hn, e]; exact h⟩
theorem get_nil (o : Nat) : Hp.get [] o = none := rfl
def retE (c : Option (AV × List Nat)) (res : AV) : Prop :=
 match c with
 | some (c, _) => Sub c res
 | none => False
def retF (P : Program) (rs : List ResultVar) (res : AV) (s : St) : Prop :=
 match resL P s rs with
 | some l => retE (fz s.hp.get (one l)) res
 | none => False
def condV (c : AV) (x y : Prop) : Prop :=
 match c with
 | .d (.v (.bool b)) => if b = true then x else y
 | _ => False
theorem subL_nil (u : List Nat) : subL [] u = true := rfl
theorem subL_cons (i : Nat) (l u : List Nat) : subL (i :: l) u = (u.contains i && subL l u) := rfl
theorem selP_or (p : Prop) [Decidable p] (b : Bool) : ((if p then true else b) = true) = (p ∨ b = true) := by by_cases h : p <;> simp [h]
theorem selP_and (p : Prop) [Decidable p] (b : Bool) : ((if p then b else false) = true) = (p ∧ b = true) := by by_cases h : p <;> simp [h]
theorem sel_and (c x : Bool) : (if c = true then x else false) = (c && x) := by cases c <;> rfl
theorem sel_or (c x : Bool) : (if c = true then true else x) = (c || x) := by cases c <;> rfl
theorem evC_cond (P : Program) (Γ : Gam) (D : Array Oper → St → (St → Prop) → Prop) (n : Nat) (u : List Nat) (sl : List (Nat × AV)) (hp : Hp) (Q : Exit → St → Prop) (t : Nat) (x y : Code) :
  wpc P Γ D (.cond (.tmp t) x y) Q ⟨n, u, sl, hp⟩ = condV (lk sl (.tmp t)) (wpc P Γ D x Q ⟨n, u, sl, hp⟩) (wpc P Γ D y Q ⟨n, u, sl, hp⟩) := by
 rw [wpc_cond]
 unfold condV
 cases lk sl (.tmp t) with
 | d x => cases x with
  | v x => cases x <;> rfl
  | sl _ _ => rfl
 | _ => rfl
theorem evC :
  (∀ (P : Program) (Γ : Gam) (D : Array Oper → St → (St → Prop) → Prop) (n : Nat) (u : List Nat) (sl : List (Nat × AV)) (hp : Hp) (Q : Exit → St → Prop), wpc P Γ D .skip Q ⟨n, u, sl, hp⟩ = Q .normal ⟨n, u, sl, hp⟩) ∧
  (∀ (P : Program) (Γ : Gam) (D : Array Oper → St → (St → Prop) → Prop) (n : Nat) (u : List Nat) (sl : List (Nat × AV)) (hp : Hp) (Q : Exit → St → Prop) (id : Nat) (l : List Oper), wpc P Γ D (.region id (List.toArray l) false) Q ⟨n, u, sl, hp⟩ = runOps P Γ l.toArray l ⟨n, u, sl, hp⟩ (Q .normal)) ∧
  (∀ (P : Program) (Γ : Gam) (D : Array Oper → St → (St → Prop) → Prop) (n : Nat) (u : List Nat) (sl : List (Nat × AV)) (hp : Hp) (Q : Exit → St → Prop) (id : Nat) (l : List Oper), wpc P Γ D (.region id (List.toArray l) true) Q ⟨n, u, sl, hp⟩ = D l.toArray ⟨n, u, sl, hp⟩ (Q .normal)) ∧
  (∀ (P : Program) (Γ : Gam) (D : Array Oper → St → (St → Prop) → Prop) (n : Nat) (u : List Nat) (sl : List (Nat × AV)) (hp : Hp) (Q : Exit → St → Prop) (x : Code) (y : Code), wpc P Γ D (.seq x y) Q ⟨n, u, sl, hp⟩ = wpc P Γ D x (thenS (wpc P Γ D y Q) Q) ⟨n, u, sl, hp⟩) ∧
  (∀ (P : Program) (Γ : Gam) (D : Array Oper → St → (St → Prop) → Prop) (n : Nat) (u : List Nat) (sl : List (Nat × AV)) (hp : Hp) (Q : Exit → St → Prop) (t : Nat) (x : Code) (y : Code), wpc P Γ D (.cond (.tmp t) x y) Q ⟨n, u, sl, hp⟩ = condV (lk sl (.tmp t)) (wpc P Γ D x Q ⟨n, u, sl, hp⟩) (wpc P Γ D y Q ⟨n, u, sl, hp⟩)) ∧
  (∀ (P : Program) (Γ : Gam) (D : Array Oper → St → (St → Prop) → Prop) (n : Nat) (u : List Nat) (sl : List (Nat × AV)) (hp : Hp) (Q : Exit → St → Prop) (id : Nat) (x : Code), wpc P Γ D (.block id x) Q ⟨n, u, sl, hp⟩ = wpc P Γ D x (inBlockS id Q) ⟨n, u, sl, hp⟩) ∧
  (∀ (P : Program) (Γ : Gam) (D : Array Oper → St → (St → Prop) → Prop) (n : Nat) (u : List Nat) (sl : List (Nat × AV)) (hp : Hp) (Q : Exit → St → Prop) (id : Nat), wpc P Γ D (.exit id) Q ⟨n, u, sl, hp⟩ = Q (.exit id) ⟨n, u, sl, hp⟩) ∧
  (∀ (P : Program) (Γ : Gam) (D : Array Oper → St → (St → Prop) → Prop) (n : Nat) (u : List Nat) (sl : List (Nat × AV)) (hp : Hp) (Q : Exit → St → Prop), wpc P Γ D .ret Q ⟨n, u, sl, hp⟩ = Q .ret ⟨n, u, sl, hp⟩) ∧
  (∀ (A : St → Prop) (Q : Exit → St → Prop) (s : St), thenS A Q .normal s = A s) ∧
  (∀ (A : St → Prop) (Q : Exit → St → Prop) (id : Nat) (s : St), thenS A Q (.exit id) s = Q (.exit id) s) ∧
  (∀ (A : St → Prop) (Q : Exit → St → Prop) (s : St), thenS A Q .ret s = Q .ret s) ∧
  (∀ (Q : Exit → St → Prop) (id : Nat) (s : St), inBlockS id Q .normal s = Q .normal s) ∧
  (∀ (Q : Exit → St → Prop) (id j : Nat) (s : St), inBlockS id Q (.exit j) s = if j = id then Q .normal s else Q (.exit j) s) ∧
  (∀ (Q : Exit → St → Prop) (id : Nat) (s : St), inBlockS id Q .ret s = Q .ret s) ∧
  (∀ (P : Program) (Γ : Gam) (n : Nat) (u : List Nat) (sl : List (Nat × AV)) (hp : Hp) (K : St → Prop) (ops : Array Oper), runOps P Γ ops [] ⟨n, u, sl, hp⟩ K = K ⟨n, u, sl, hp⟩) ∧
  (∀ (P : Program) (Γ : Gam) (n : Nat) (u : List Nat) (sl : List (Nat × AV)) (hp : Hp) (K : St → Prop) (ops : Array Oper) (o : Oper) (os : List Oper), runOps P Γ ops (o :: os) ⟨n, u, sl, hp⟩ K = runOp P Γ ops o ⟨n, u, sl, hp⟩ fun s' => runOps P Γ ops os s' K) ∧
  (∀ (P : Program) (Γ : Gam) (n : Nat) (u : List Nat) (sl : List (Nat × AV)) (hp : Hp) (K : St → Prop) (ops : Array Oper) (dst : Option Nat) (op : Op) (ty : Nat) (pos : String) (aft : Array Edge), runOp P Γ ops ⟨dst, op, ty, pos, aft, none⟩ ⟨n, u, sl, hp⟩ K = goE n u sl hp dst ((St.mk n u sl hp).effOf P Γ (dst.getD 0) op) K) ∧
  (∀ (P : Program) (Γ : Gam) (n : Nat) (u : List Nat) (sl : List (Nat × AV)) (hp : Hp) (K : St → Prop) (l : List Oper) (d : Nat) (op : Op) (ty : Nat) (pos : String) (aft : Array Edge) (j : Nat) (want : Bool), runOp P Γ (List.toArray l) ⟨some d, op, ty, pos, aft, some (j, want)⟩ ⟨n, u, sl, hp⟩ K = goH n u sl hp d (gdV sl (gdL l j)) want (fun g => (St.mk n u (sl.map fun p => (p.1, unw g p.2)) hp).effOf P Γ d op) K) ∧
  (∀ (P : Program) (rs : List ResultVar) (res : AV) (s : St), retR P rs res .ret s = retF P rs res s) ∧
  (∀ (P : Program) (rs : List ResultVar) (res : AV) (s : St), retR P rs res .normal s = retF P rs res s) :=
 ⟨fun _ _ _ _ _ _ _ _ => rfl,
  fun _ _ _ _ _ _ _ _ _ _ => rfl,
  fun _ _ _ _ _ _ _ _ _ _ => rfl,
  fun _ _ _ _ _ _ _ _ _ _ => rfl,
  fun P Γ D n u sl hp Q t x y => evC_cond P Γ D n u sl hp Q t x y,
  fun _ _ _ _ _ _ _ _ _ _ => rfl,
  fun _ _ _ _ _ _ _ _ _ => rfl,
  fun _ _ _ _ _ _ _ _ => rfl,
  fun _ _ _ => rfl,
  fun _ _ _ _ => rfl,
  fun _ _ _ => rfl,
  fun _ _ _ => rfl,
  fun _ _ _ _ => rfl,
  fun _ _ _ => rfl,
  fun _ _ _ _ _ _ _ _ => rfl,
  fun _ _ _ _ _ _ _ _ _ _ => rfl,
  fun P Γ n u sl hp K ops dst op ty pos aft => runOp_none P Γ n u sl hp ops K dst op ty pos aft,
  fun P Γ n u sl hp K l d op ty pos aft j want => runOp_guard P Γ n u sl hp K d op ty pos aft j want l,
  fun _ _ _ _ => rfl,
  fun _ _ _ _ => rfl⟩
theorem evV :
  (∀ (b : Bool) (x y : Prop), condV (.d (.v (.bool b))) x y = if b = true then x else y) ∧ (∀ b : Bool, boolOf (.d (.v (.bool b))) = some ([], b)) ∧ (∀ gs b, boolOf (.gd gs (.d (.v (.bool b)))) = some (gs, b)) ∧ (∀ sl t, gdV sl (some t) = boolOf (lk sl (.tmp t))) ∧
  (∀ o os, gdL (o :: os) 0 = o.dst) ∧ (∀ o os j, gdL (o :: os) (j + 1) = gdL os j) ∧ (∀ c k res, retE (some (c, k)) res = Sub c res) := ⟨fun _ _ _ => rfl, fun _ => rfl, fun _ _ => rfl, fun _ _ => rfl, fun _ _ => rfl, fun _ _ _ => rfl, fun _ _ _ => rfl⟩
theorem Draws {P : Program} {Γ : Gam} (hm : P.follows .mixedOrders = true) (hG : Gok P Γ) (hL : Gloc Γ) : DrawOk P Γ (DRun P Γ) := fun _ _ _ _ _ _ _ _ h S => draw_ok hm hG hL h S
structure Known (P : Program) (Γ : Gam) : Prop where
 ok : Gok P Γ
 loc : Gloc Γ
theorem Known.none (P : Program) : Known P Gam.none := ⟨Gok.none, Gloc.none⟩
theorem Known.add {P : Program} {Γ : Gam} (hm : P.follows .mixedOrders = true) (K : Known P Γ) {g0 : Nat} {F : List AV → Option (Prop × AV)}
  (hF : ∀ args sc res, F args = some (sc, res) → sc → AV.ids.idsL args = [] → res.ids = [] ∧ Body P Γ (DRun P Γ) g0 args res) : Known P (Γ.add g0 F) :=
 ⟨K.ok.add fun args sc res h hs hi => let ⟨h1, h2⟩ := hF args sc res h hs hi; Body.calm K.ok (Draws hm K.ok K.loc) hi h1 h2, K.loc.add g0 F⟩
end Go.Proofs.Ytgbialeahdoelaa.Eng

end

section
namespace Go.Proofs.Ytgbialeahdoelaa.Eng
open Go
theorem ti1 : ti Try.prog 1 = some ⟨.other, 1, 8, [.nilFunc]⟩ := by kernel_rfl
theorem ti2 : ti Try.prog 2 = some ⟨.int .i64, 1, 8, [.int .i64 0]⟩ := by kernel_rfl
theorem ti3 : ti Try.prog 3 = some ⟨.int .i64, 1, 8, [.int .i64 0]⟩ := by kernel_rfl
theorem ti4 : ti Try.prog 4 = some ⟨.bool, 1, 1, [.bool false]⟩ := by kernel_rfl
theorem ti5 : ti Try.prog 5 = some ⟨.int .u8, 1, 1, [.int .u8 0]⟩ := by kernel_rfl
theorem ti6 : ti Try.prog 6 = some ⟨.int .u8, 1, 1, [.int .u8 0]⟩ := by kernel_rfl
theorem ti7 : ti Try.prog 7 = some ⟨.struct [(0, 2), (1, 3), (2, 4), (3, 6)], 4, 24, [.int .i64 0, .int .i64 0, .bool false, .int .u8 0]⟩ := by kernel_rfl
theorem ti8 : ti Try.prog 8 = some ⟨.struct [(0, 2), (1, 3), (2, 4), (3, 6)], 4, 24, [.int .i64 0, .int .i64 0, .bool false, .int .u8 0]⟩ := by kernel_rfl
theorem ti9 : ti Try.prog 9 = some ⟨.str, 1, 16, [.string ByteArray.empty]⟩ := by kernel_rfl
theorem ti10 : ti Try.prog 10 = some ⟨.str, 1, 16, [.string ByteArray.empty]⟩ := by kernel_rfl
theorem ti11 : ti Try.prog 11 = some ⟨.str, 1, 16, [.string ByteArray.empty]⟩ := by kernel_rfl
theorem ti12 : ti Try.prog 12 = some ⟨.int .u64, 1, 8, [.int .u64 0]⟩ := by kernel_rfl
theorem ti13 : ti Try.prog 13 = some ⟨.struct [(0, 9), (1, 12)], 2, 24, [.string ByteArray.empty, .int .u64 0]⟩ := by kernel_rfl
theorem ti14 : ti Try.prog 14 = some ⟨.struct [(0, 9), (1, 12)], 2, 24, [.string ByteArray.empty, .int .u64 0]⟩ := by kernel_rfl
theorem ti15 : ti Try.prog 15 = some ⟨.ptr 120, 1, 8, [.pointer none]⟩ := by kernel_rfl
theorem ti16 : ti Try.prog 16 = some ⟨.ptr 123, 1, 8, [.pointer none]⟩ := by kernel_rfl
theorem ti17 : ti Try.prog 17 = some ⟨.ptr 130, 1, 8, [.pointer none]⟩ := by kernel_rfl
theorem ti18 : ti Try.prog 18 = some ⟨.struct [(0, 17)], 1, 8, [.pointer none]⟩ := by kernel_rfl
theorem ti19 : ti Try.prog 19 = some ⟨.struct [(0, 17)], 1, 8, [.pointer none]⟩ := by kernel_rfl
theorem ti20 : ti Try.prog 20 = some ⟨.other, 1, 16, [.nilIface]⟩ := by kernel_rfl
theorem ti21 : ti Try.prog 21 = some ⟨.int .i32, 1, 4, [.int .i32 0]⟩ := by kernel_rfl
theorem ti22 : ti Try.prog 22 = some ⟨.slice 47, 1, 24, [.slice none 0 0]⟩ := by kernel_rfl
theorem ti23 : ti Try.prog 23 = some ⟨.other, 1, 8, [.nilFunc]⟩ := by kernel_rfl
theorem ti24 : ti Try.prog 24 = some ⟨.other, 1, 8, [.nilFunc]⟩ := by kernel_rfl
theorem ti26 : ti Try.prog 26 = some ⟨.other, 1, 8, [.nilFunc]⟩ := by kernel_rfl
theorem ti27 : ti Try.prog 27 = some ⟨.other, 1, 8, [.nilFunc]⟩ := by kernel_rfl
theorem ti28 : ti Try.prog 28 = some ⟨.other, 1, 8, [.nilFunc]⟩ := by kernel_rfl
theorem ti30 : ti Try.prog 30 = some ⟨.other, 1, 8, [.nilFunc]⟩ := by kernel_rfl
theorem ti31 : ti Try.prog 31 = some ⟨.slice 5, 1, 24, [.slice none 0 0]⟩ := by kernel_rfl
theorem ti32 : ti Try.prog 32 = some ⟨.slice 3, 1, 24, [.slice none 0 0]⟩ := by kernel_rfl
theorem ti33 : ti Try.prog 33 = some ⟨.struct [(0, 4), (1, 9), (2, 9)], 3, 40, [.bool false, .string ByteArray.empty, .string ByteArray.empty]⟩ := by kernel_rfl
theorem ti34 : ti Try.prog 34 = some ⟨.struct [(0, 4), (1, 9), (2, 9)], 3, 40, [.bool false, .string ByteArray.empty, .string ByteArray.empty]⟩ := by kernel_rfl
theorem ti35 : ti Try.prog 35 = some ⟨.slice 37, 1, 24, [.slice none 0 0]⟩ := by kernel_rfl
theorem ti36 : ti Try.prog 36 = some ⟨.struct [(0, 3), (1, 32), (2, 34), (5, 35), (6, 3), (7, 3), (8, 32)], 9, 136, [.int .i64 0, .slice none 0 0, .bool false, .string ByteArray.empty, .string ByteArray.empty, .slice none 0 0, .int .i64 0, .int .i64 0, .slice none 0 0]⟩ := by kernel_rfl
theorem ti37 : ti Try.prog 37 = some ⟨.struct [(0, 3), (1, 32), (2, 34), (5, 35), (6, 3), (7, 3), (8, 32)], 9, 136, [.int .i64 0, .slice none 0 0, .bool false, .string ByteArray.empty, .string ByteArray.empty, .slice none 0 0, .int .i64 0, .int .i64 0, .slice none 0 0]⟩ := by kernel_rfl
theorem ti38 : ti Try.prog 38 = some ⟨.int .i64, 1, 8, [.int .i64 0]⟩ := by kernel_rfl
theorem ti39 : ti Try.prog 39 = some ⟨.struct [(0, 38), (1, 3)], 2, 16, [.int .i64 0, .int .i64 0]⟩ := by kernel_rfl
theorem ti40 : ti Try.prog 40 = some ⟨.struct [(0, 38), (1, 3)], 2, 16, [.int .i64 0, .int .i64 0]⟩ := by kernel_rfl
theorem ti42 : ti Try.prog 42 = some ⟨.other, 1, 8, [.nilFunc]⟩ := by kernel_rfl
theorem ti43 : ti Try.prog 43 = some ⟨.slice 9, 1, 24, [.slice none 0 0]⟩ := by kernel_rfl
theorem ti44 : ti Try.prog 44 = some ⟨.other, 1, 8, [.nilFunc]⟩ := by kernel_rfl
theorem ti45 : ti Try.prog 45 = some ⟨.other, 1, 8, [.nilFunc]⟩ := by kernel_rfl
theorem ti46 : ti Try.prog 46 = some ⟨.struct [(0, 3), (1, 3), (2, 3), (3, 3)], 4, 32, [.int .i64 0, .int .i64 0, .int .i64 0, .int .i64 0]⟩ := by kernel_rfl
theorem ti47 : ti Try.prog 47 = some ⟨.struct [(0, 3), (1, 3), (2, 3), (3, 3)], 4, 32, [.int .i64 0, .int .i64 0, .int .i64 0, .int .i64 0]⟩ := by kernel_rfl
theorem ti48 : ti Try.prog 48 = some ⟨.slice 22, 1, 24, [.slice none 0 0]⟩ := by kernel_rfl
theorem ti49 : ti Try.prog 49 = some ⟨.slice 4, 1, 24, [.slice none 0 0]⟩ := by kernel_rfl
theorem ti50 : ti Try.prog 50 = some ⟨.other, 1, 8, [.nilFunc]⟩ := by kernel_rfl
theorem ti51 : ti Try.prog 51 = some ⟨.other, 1, 8, [.nilFunc]⟩ := by kernel_rfl
theorem ti52 : ti Try.prog 52 = some ⟨.other, 1, 8, [.nilFunc]⟩ := by kernel_rfl
theorem ti53 : ti Try.prog 53 = some ⟨.ptr 55, 1, 8, [.pointer none]⟩ := by kernel_rfl
theorem ti54 : ti Try.prog 54 = some ⟨.struct [(0, 53), (1, 31)], 2, 32, [.pointer none, .slice none 0 0]⟩ := by kernel_rfl
theorem ti55 : ti Try.prog 55 = some ⟨.struct [(0, 53), (1, 31)], 2, 32, [.pointer none, .slice none 0 0]⟩ := by kernel_rfl
theorem ti56 : ti Try.prog 56 = some ⟨.other, 1, 16, [.nilIface]⟩ := by kernel_rfl
theorem ti57 : ti Try.prog 57 = some ⟨.other, 1, 16, [.nilIface]⟩ := by kernel_rfl
theorem ti59 : ti Try.prog 59 = some ⟨.other, 1, 8, [.nilFunc]⟩ := by kernel_rfl
theorem ti60 : ti Try.prog 60 = some ⟨.other, 1, 8, [.nilFunc]⟩ := by kernel_rfl
theorem ti61 : ti Try.prog 61 = some ⟨.other, 1, 8, [.nilFunc]⟩ := by kernel_rfl
theorem ti62 : ti Try.prog 62 = some ⟨.other, 1, 8, [.nilFunc]⟩ := by kernel_rfl
theorem ti64 : ti Try.prog 64 = some ⟨.other, 1, 8, [.nilFunc]⟩ := by kernel_rfl
theorem ti65 : ti Try.prog 65 = some ⟨.slice 89, 1, 24, [.slice none 0 0]⟩ := by kernel_rfl
theorem ti67 : ti Try.prog 67 = some ⟨.other, 1, 8, [.nilFunc]⟩ := by kernel_rfl
theorem ti68 : ti Try.prog 68 = some ⟨.ptr 70, 1, 8, [.pointer none]⟩ := by kernel_rfl
theorem ti69 : ti Try.prog 69 = some ⟨.struct [(0, 31), (1, 65), (2, 3), (3, 40)], 5, 72, [.slice none 0 0, .slice none 0 0, .int .i64 0, .int .i64 0, .int .i64 0]⟩ := by kernel_rfl
theorem ti70 : ti Try.prog 70 = some ⟨.struct [(0, 31), (1, 65), (2, 3), (3, 40)], 5, 72, [.slice none 0 0, .slice none 0 0, .int .i64 0, .int .i64 0, .int .i64 0]⟩ := by kernel_rfl
theorem ti71 : ti Try.prog 71 = some ⟨.other, 1, 8, [.nilFunc]⟩ := by kernel_rfl
theorem ti72 : ti Try.prog 72 = some ⟨.other, 1, 8, [.nilFunc]⟩ := by kernel_rfl
theorem ti73 : ti Try.prog 73 = some ⟨.other, 1, 8, [.nilFunc]⟩ := by kernel_rfl
theorem ti75 : ti Try.prog 75 = some ⟨.other, 1, 8, [.nilFunc]⟩ := by kernel_rfl
theorem ti76 : ti Try.prog 76 = some ⟨.int .u64, 1, 8, [.int .u64 0]⟩ := by kernel_rfl
theorem ti78 : ti Try.prog 78 = some ⟨.other, 1, 8, [.nilFunc]⟩ := by kernel_rfl
theorem ti79 : ti Try.prog 79 = some ⟨.other, 1, 8, [.nilFunc]⟩ := by kernel_rfl
theorem ti80 : ti Try.prog 80 = some ⟨.other, 1, 8, [.nilFunc]⟩ := by kernel_rfl
theorem ti81 : ti Try.prog 81 = some ⟨.ptr 5, 1, 8, [.pointer none]⟩ := by kernel_rfl
theorem ti82 : ti Try.prog 82 = some ⟨.other, 1, 8, [.nilFunc]⟩ := by kernel_rfl
theorem ti83 : ti Try.prog 83 = some ⟨.other, 1, 8, [.nilFunc]⟩ := by kernel_rfl
theorem ti84 : ti Try.prog 84 = some ⟨.other, 1, 8, [.nilFunc]⟩ := by kernel_rfl
theorem ti85 : ti Try.prog 85 = some ⟨.other, 1, 8, [.nilFunc]⟩ := by kernel_rfl
theorem ti86 : ti Try.prog 86 = some ⟨.other, 1, 8, [.nilFunc]⟩ := by kernel_rfl
theorem ti87 : ti Try.prog 87 = some ⟨.other, 1, 8, [.nilFunc]⟩ := by kernel_rfl
theorem ti88 : ti Try.prog 88 = some ⟨.struct [(0, 3), (1, 3), (2, 3)], 3, 24, [.int .i64 0, .int .i64 0, .int .i64 0]⟩ := by kernel_rfl
theorem ti89 : ti Try.prog 89 = some ⟨.struct [(0, 3), (1, 3), (2, 3)], 3, 24, [.int .i64 0, .int .i64 0, .int .i64 0]⟩ := by kernel_rfl
theorem ti90 : ti Try.prog 90 = some ⟨.other, 1, 8, [.nilFunc]⟩ := by kernel_rfl
theorem ti91 : ti Try.prog 91 = some ⟨.other, 1, 8, [.nilFunc]⟩ := by kernel_rfl
theorem ti92 : ti Try.prog 92 = some ⟨.other, 1, 8, [.nilFunc]⟩ := by kernel_rfl
theorem ti94 : ti Try.prog 94 = some ⟨.other, 1, 8, [.nilFunc]⟩ := by kernel_rfl
theorem ti95 : ti Try.prog 95 = some ⟨.other, 1, 8, [.nilFunc]⟩ := by kernel_rfl
theorem ti96 : ti Try.prog 96 = some ⟨.other, 1, 8, [.nilFunc]⟩ := by kernel_rfl
theorem ti97 : ti Try.prog 97 = some ⟨.other, 1, 8, [.nilFunc]⟩ := by kernel_rfl
theorem ti99 : ti Try.prog 99 = some ⟨.other, 1, 8, [.nilFunc]⟩ := by kernel_rfl
theorem ti100 : ti Try.prog 100 = some ⟨.int .u32, 1, 4, [.int .u32 0]⟩ := by kernel_rfl
theorem ti102 : ti Try.prog 102 = some ⟨.other, 1, 8, [.nilFunc]⟩ := by kernel_rfl
theorem ti103 : ti Try.prog 103 = some ⟨.int .u64, 1, 8, [.int .u64 0]⟩ := by kernel_rfl
theorem ti105 : ti Try.prog 105 = some ⟨.other, 1, 8, [.nilFunc]⟩ := by kernel_rfl
theorem ti106 : ti Try.prog 106 = some ⟨.other, 1, 8, [.nilFunc]⟩ := by kernel_rfl
theorem ti107 : ti Try.prog 107 = some ⟨.other, 1, 8, [.nilFunc]⟩ := by kernel_rfl
theorem ti108 : ti Try.prog 108 = some ⟨.other, 1, 8, [.nilFunc]⟩ := by kernel_rfl
theorem ti109 : ti Try.prog 109 = some ⟨.other, 1, 8, [.nilFunc]⟩ := by kernel_rfl
theorem ti110 : ti Try.prog 110 = some ⟨.other, 1, 8, [.nilFunc]⟩ := by kernel_rfl
theorem ti111 : ti Try.prog 111 = some ⟨.other, 1, 8, [.nilFunc]⟩ := by kernel_rfl
theorem ti112 : ti Try.prog 112 = some ⟨.other, 1, 8, [.nilFunc]⟩ := by kernel_rfl
theorem ti114 : ti Try.prog 114 = some ⟨.other, 1, 8, [.nilFunc]⟩ := by kernel_rfl
theorem ti115 : ti Try.prog 115 = some ⟨.other, 1, 8, [.nilFunc]⟩ := by kernel_rfl
theorem ti117 : ti Try.prog 117 = some ⟨.other, 1, 8, [.nilFunc]⟩ := by kernel_rfl
theorem ti118 : ti Try.prog 118 = some ⟨.other, 1, 8, [.nilFunc]⟩ := by kernel_rfl
theorem ti119 : ti Try.prog 119 = some ⟨.struct [(0, 17), (1, 17), (2, 17), (3, 9)], 4, 40, [.pointer none, .pointer none, .pointer none, .string ByteArray.empty]⟩ := by kernel_rfl
theorem ti120 : ti Try.prog 120 = some ⟨.struct [(0, 17), (1, 17), (2, 17), (3, 9)], 4, 40, [.pointer none, .pointer none, .pointer none, .string ByteArray.empty]⟩ := by kernel_rfl
theorem ti121 : ti Try.prog 121 = some ⟨.array 0 16, 0, 0, []⟩ := by kernel_rfl
theorem ti122 : ti Try.prog 122 = some ⟨.struct [(0, 121)], 0, 0, []⟩ := by kernel_rfl
theorem ti123 : ti Try.prog 123 = some ⟨.struct [(0, 121)], 0, 0, []⟩ := by kernel_rfl
theorem ti124 : ti Try.prog 124 = some ⟨.int .u8, 1, 1, [.int .u8 0]⟩ := by kernel_rfl
theorem ti125 : ti Try.prog 125 = some ⟨.int .u8, 1, 1, [.int .u8 0]⟩ := by kernel_rfl
theorem ti126 : ti Try.prog 126 = some ⟨.other, 1, 8, [.nilFunc]⟩ := by kernel_rfl
theorem ti127 : ti Try.prog 127 = some ⟨.int .i32, 1, 4, [.int .i32 0]⟩ := by kernel_rfl
theorem ti128 : ti Try.prog 128 = some ⟨.int .i32, 1, 4, [.int .i32 0]⟩ := by kernel_rfl
theorem ti129 : ti Try.prog 129 = some ⟨.struct [(0, 12), (1, 12), (2, 100), (3, 124), (4, 5), (5, 5), (6, 125), (7, 126), (8, 81), (9, 127), (10, 128)], 11, 48, [.int .u64 0, .int .u64 0, .int .u32 0, .int .u8 0, .int .u8 0, .int .u8 0, .int .u8 0, .nilFunc, .pointer none, .int .i32 0, .int .i32 0]⟩ := by kernel_rfl
theorem ti130 : ti Try.prog 130 = some ⟨.struct [(0, 12), (1, 12), (2, 100), (3, 124), (4, 5), (5, 5), (6, 125), (7, 126), (8, 81), (9, 127), (10, 128)], 11, 48, [.int .u64 0, .int .u64 0, .int .u32 0, .int .u8 0, .int .u8 0, .int .u8 0, .int .u8 0, .nilFunc, .pointer none, .int .i32 0, .int .i32 0]⟩ := by kernel_rfl
theorem tis : ti Try.prog 1 = some ⟨.other, 1, 8, [.nilFunc]⟩ ∧ ti Try.prog 2 = some ⟨.int .i64, 1, 8, [.int .i64 0]⟩ ∧ ti Try.prog 3 = some ⟨.int .i64, 1, 8, [.int .i64 0]⟩ ∧ ti Try.prog 4 = some ⟨.bool, 1, 1, [.bool false]⟩ ∧ ti Try.prog 5 = some ⟨.int .u8, 1, 1, [.int .u8 0]⟩ ∧ ti Try.prog 6 = some ⟨.int .u8, 1, 1, [.int .u8 0]⟩ ∧ ti Try.prog 7 = some ⟨.struct [(0, 2), (1, 3), (2, 4), (3, 6)], 4, 24, [.int .i64 0, .int .i64 0, .bool false, .int .u8 0]⟩ ∧ ti Try.prog 8 = some ⟨.struct [(0, 2), (1, 3), (2, 4), (3, 6)], 4, 24, [.int .i64 0, .int .i64 0, .bool false, .int .u8 0]⟩ ∧ ti Try.prog 9 = some ⟨.str, 1, 16, [.string ByteArray.empty]⟩ ∧ ti Try.prog 10 = some ⟨.str, 1, 16, [.string ByteArray.empty]⟩ ∧ ti Try.prog 11 = some ⟨.str, 1, 16, [.string ByteArray.empty]⟩ ∧ ti Try.prog 12 = some ⟨.int .u64, 1, 8, [.int .u64 0]⟩ ∧ ti Try.prog 13 = some ⟨.struct [(0, 9), (1, 12)], 2, 24, [.string ByteArray.empty, .int .u64 0]⟩ ∧ ti Try.prog 14 = some ⟨.struct [(0, 9), (1, 12)], 2, 24, [.string ByteArray.empty, .int .u64 0]⟩ ∧ ti Try.prog 15 = some ⟨.ptr 120, 1, 8, [.pointer none]⟩ ∧ ti Try.prog 16 = some ⟨.ptr 123, 1, 8, [.pointer none]⟩ ∧ ti Try.prog 17 = some ⟨.ptr 130, 1, 8, [.pointer none]⟩ ∧ ti Try.prog 18 = some ⟨.struct [(0, 17)], 1, 8, [.pointer none]⟩ ∧ ti Try.prog 19 = some ⟨.struct [(0, 17)], 1, 8, [.pointer none]⟩ ∧ ti Try.prog 20 = some ⟨.other, 1, 16, [.nilIface]⟩ ∧ ti Try.prog 21 = some ⟨.int .i32, 1, 4, [.int .i32 0]⟩ ∧ ti Try.prog 22 = some ⟨.slice 47, 1, 24, [.slice none 0 0]⟩ ∧ ti Try.prog 23 = some ⟨.other, 1, 8, [.nilFunc]⟩ ∧ ti Try.prog 24 = some ⟨.other, 1, 8, [.nilFunc]⟩ ∧ ti Try.prog 26 = some ⟨.other, 1, 8, [.nilFunc]⟩ ∧ ti Try.prog 27 = some ⟨.other, 1, 8, [.nilFunc]⟩ ∧ ti Try.prog 28 = some ⟨.other, 1, 8, [.nilFunc]⟩ ∧ ti Try.prog 30 = some ⟨.other, 1, 8, [.nilFunc]⟩ ∧ ti Try.prog 31 = some ⟨.slice 5, 1, 24, [.slice none 0 0]⟩ ∧ ti Try.prog 32 = some ⟨.slice 3, 1, 24, [.slice none 0 0]⟩ ∧ ti Try.prog 33 = some ⟨.struct [(0, 4), (1, 9), (2, 9)], 3, 40, [.bool false, .string ByteArray.empty, .string ByteArray.empty]⟩ ∧ ti Try.prog 34 = some ⟨.struct [(0, 4), (1, 9), (2, 9)], 3, 40, [.bool false, .string ByteArray.empty, .string ByteArray.empty]⟩ ∧ ti Try.prog 35 = some ⟨.slice 37, 1, 24, [.slice none 0 0]⟩ ∧ ti Try.prog 36 = some ⟨.struct [(0, 3), (1, 32), (2, 34), (5, 35), (6, 3), (7, 3), (8, 32)], 9, 136, [.int .i64 0, .slice none 0 0, .bool false, .string ByteArray.empty, .string ByteArray.empty, .slice none 0 0, .int .i64 0, .int .i64 0, .slice none 0 0]⟩ ∧ ti Try.prog 37 = some ⟨.struct [(0, 3), (1, 32), (2, 34), (5, 35), (6, 3), (7, 3), (8, 32)], 9, 136, [.int .i64 0, .slice none 0 0, .bool false, .string ByteArray.empty, .string ByteArray.empty, .slice none 0 0, .int .i64 0, .int .i64 0, .slice none 0 0]⟩ ∧ ti Try.prog 38 = some ⟨.int .i64, 1, 8, [.int .i64 0]⟩ ∧ ti Try.prog 39 = some ⟨.struct [(0, 38), (1, 3)], 2, 16, [.int .i64 0, .int .i64 0]⟩ ∧ ti Try.prog 40 = some ⟨.struct [(0, 38), (1, 3)], 2, 16, [.int .i64 0, .int .i64 0]⟩ ∧ ti Try.prog 42 = some ⟨.other, 1, 8, [.nilFunc]⟩ ∧ ti Try.prog 43 = some ⟨.slice 9, 1, 24, [.slice none 0 0]⟩ ∧ ti Try.prog 44 = some ⟨.other, 1, 8, [.nilFunc]⟩ ∧ ti Try.prog 45 = some ⟨.other, 1, 8, [.nilFunc]⟩ ∧ ti Try.prog 46 = some ⟨.struct [(0, 3), (1, 3), (2, 3), (3, 3)], 4, 32, [.int .i64 0, .int .i64 0, .int .i64 0, .int .i64 0]⟩ ∧ ti Try.prog 47 = some ⟨.struct [(0, 3), (1, 3), (2, 3), (3, 3)], 4, 32, [.int .i64 0, .int .i64 0, .int .i64 0, .int .i64 0]⟩ ∧ ti Try.prog 48 = some ⟨.slice 22, 1, 24, [.slice none 0 0]⟩ ∧ ti Try.prog 49 = some ⟨.slice 4, 1, 24, [.slice none 0 0]⟩ ∧ ti Try.prog 50 = some ⟨.other, 1, 8, [.nilFunc]⟩ ∧ ti Try.prog 51 = some ⟨.other, 1, 8, [.nilFunc]⟩ ∧ ti Try.prog 52 = some ⟨.other, 1, 8, [.nilFunc]⟩ ∧ ti Try.prog 53 = some ⟨.ptr 55, 1, 8, [.pointer none]⟩ ∧ ti Try.prog 54 = some ⟨.struct [(0, 53), (1, 31)], 2, 32, [.pointer none, .slice none 0 0]⟩ ∧ ti Try.prog 55 = some ⟨.struct [(0, 53), (1, 31)], 2, 32, [.pointer none, .slice none 0 0]⟩ ∧ ti Try.prog 56 = some ⟨.other, 1, 16, [.nilIface]⟩ ∧ ti Try.prog 57 = some ⟨.other, 1, 16, [.nilIface]⟩ ∧ ti Try.prog 59 = some ⟨.other, 1, 8, [.nilFunc]⟩ ∧ ti Try.prog 60 = some ⟨.other, 1, 8, [.nilFunc]⟩ ∧ ti Try.prog 61 = some ⟨.other, 1, 8, [.nilFunc]⟩ ∧ ti Try.prog 62 = some ⟨.other, 1, 8, [.nilFunc]⟩ ∧ ti Try.prog 64 = some ⟨.other, 1, 8, [.nilFunc]⟩ ∧ ti Try.prog 65 = some ⟨.slice 89, 1, 24, [.slice none 0 0]⟩ ∧ ti Try.prog 67 = some ⟨.other, 1, 8, [.nilFunc]⟩ ∧ ti Try.prog 68 = some ⟨.ptr 70, 1, 8, [.pointer none]⟩ ∧ ti Try.prog 69 = some ⟨.struct [(0, 31), (1, 65), (2, 3), (3, 40)], 5, 72, [.slice none 0 0, .slice none 0 0, .int .i64 0, .int .i64 0, .int .i64 0]⟩ ∧ ti Try.prog 70 = some ⟨.struct [(0, 31), (1, 65), (2, 3), (3, 40)], 5, 72, [.slice none 0 0, .slice none 0 0, .int .i64 0, .int .i64 0, .int .i64 0]⟩ ∧ ti Try.prog 71 = some ⟨.other, 1, 8, [.nilFunc]⟩ ∧ ti Try.prog 72 = some ⟨.other, 1, 8, [.nilFunc]⟩ ∧ ti Try.prog 73 = some ⟨.other, 1, 8, [.nilFunc]⟩ ∧ ti Try.prog 75 = some ⟨.other, 1, 8, [.nilFunc]⟩ ∧ ti Try.prog 76 = some ⟨.int .u64, 1, 8, [.int .u64 0]⟩ ∧ ti Try.prog 78 = some ⟨.other, 1, 8, [.nilFunc]⟩ ∧ ti Try.prog 79 = some ⟨.other, 1, 8, [.nilFunc]⟩ ∧ ti Try.prog 80 = some ⟨.other, 1, 8, [.nilFunc]⟩ ∧ ti Try.prog 81 = some ⟨.ptr 5, 1, 8, [.pointer none]⟩ ∧ ti Try.prog 82 = some ⟨.other, 1, 8, [.nilFunc]⟩ ∧ ti Try.prog 83 = some ⟨.other, 1, 8, [.nilFunc]⟩ ∧ ti Try.prog 84 = some ⟨.other, 1, 8, [.nilFunc]⟩ ∧ ti Try.prog 85 = some ⟨.other, 1, 8, [.nilFunc]⟩ ∧ ti Try.prog 86 = some ⟨.other, 1, 8, [.nilFunc]⟩ ∧ ti Try.prog 87 = some ⟨.other, 1, 8, [.nilFunc]⟩ ∧ ti Try.prog 88 = some ⟨.struct [(0, 3), (1, 3), (2, 3)], 3, 24, [.int .i64 0, .int .i64 0, .int .i64 0]⟩ ∧ ti Try.prog 89 = some ⟨.struct [(0, 3), (1, 3), (2, 3)], 3, 24, [.int .i64 0, .int .i64 0, .int .i64 0]⟩ ∧ ti Try.prog 90 = some ⟨.other, 1, 8, [.nilFunc]⟩ ∧ ti Try.prog 91 = some ⟨.other, 1, 8, [.nilFunc]⟩ ∧ ti Try.prog 92 = some ⟨.other, 1, 8, [.nilFunc]⟩ ∧ ti Try.prog 94 = some ⟨.other, 1, 8, [.nilFunc]⟩ ∧ ti Try.prog 95 = some ⟨.other, 1, 8, [.nilFunc]⟩ ∧ ti Try.prog 96 = some ⟨.other, 1, 8, [.nilFunc]⟩ ∧ ti Try.prog 97 = some ⟨.other, 1, 8, [.nilFunc]⟩ ∧ ti Try.prog 99 = some ⟨.other, 1, 8, [.nilFunc]⟩ ∧ ti Try.prog 100 = some ⟨.int .u32, 1, 4, [.int .u32 0]⟩ ∧ ti Try.prog 102 = some ⟨.other, 1, 8, [.nilFunc]⟩ ∧ ti Try.prog 103 = some ⟨.int .u64, 1, 8, [.int .u64 0]⟩ ∧ ti Try.prog 105 = some ⟨.other, 1, 8, [.nilFunc]⟩ ∧ ti Try.prog 106 = some ⟨.other, 1, 8, [.nilFunc]⟩ ∧ ti Try.prog 107 = some ⟨.other, 1, 8, [.nilFunc]⟩ ∧ ti Try.prog 108 = some ⟨.other, 1, 8, [.nilFunc]⟩ ∧ ti Try.prog 109 = some ⟨.other, 1, 8, [.nilFunc]⟩ ∧ ti Try.prog 110 = some ⟨.other, 1, 8, [.nilFunc]⟩ ∧ ti Try.prog 111 = some ⟨.other, 1, 8, [.nilFunc]⟩ ∧ ti Try.prog 112 = some ⟨.other, 1, 8, [.nilFunc]⟩ ∧ ti Try.prog 114 = some ⟨.other, 1, 8, [.nilFunc]⟩ ∧ ti Try.prog 115 = some ⟨.other, 1, 8, [.nilFunc]⟩ ∧ ti Try.prog 117 = some ⟨.other, 1, 8, [.nilFunc]⟩ ∧ ti Try.prog 118 = some ⟨.other, 1, 8, [.nilFunc]⟩ ∧ ti Try.prog 119 = some ⟨.struct [(0, 17), (1, 17), (2, 17), (3, 9)], 4, 40, [.pointer none, .pointer none, .pointer none, .string ByteArray.empty]⟩ ∧ ti Try.prog 120 = some ⟨.struct [(0, 17), (1, 17), (2, 17), (3, 9)], 4, 40, [.pointer none, .pointer none, .pointer none, .string ByteArray.empty]⟩ ∧ ti Try.prog 121 = some ⟨.array 0 16, 0, 0, []⟩ ∧ ti Try.prog 122 = some ⟨.struct [(0, 121)], 0, 0, []⟩ ∧ ti Try.prog 123 = some ⟨.struct [(0, 121)], 0, 0, []⟩ ∧ ti Try.prog 124 = some ⟨.int .u8, 1, 1, [.int .u8 0]⟩ ∧ ti Try.prog 125 = some ⟨.int .u8, 1, 1, [.int .u8 0]⟩ ∧ ti Try.prog 126 = some ⟨.other, 1, 8, [.nilFunc]⟩ ∧ ti Try.prog 127 = some ⟨.int .i32, 1, 4, [.int .i32 0]⟩ ∧ ti Try.prog 128 = some ⟨.int .i32, 1, 4, [.int .i32 0]⟩ ∧ ti Try.prog 129 = some ⟨.struct [(0, 12), (1, 12), (2, 100), (3, 124), (4, 5), (5, 5), (6, 125), (7, 126), (8, 81), (9, 127), (10, 128)], 11, 48, [.int .u64 0, .int .u64 0, .int .u32 0, .int .u8 0, .int .u8 0, .int .u8 0, .int .u8 0, .nilFunc, .pointer none, .int .i32 0, .int .i32 0]⟩ ∧ ti Try.prog 130 = some ⟨.struct [(0, 12), (1, 12), (2, 100), (3, 124), (4, 5), (5, 5), (6, 125), (7, 126), (8, 81), (9, 127), (10, 128)], 11, 48, [.int .u64 0, .int .u64 0, .int .u32 0, .int .u8 0, .int .u8 0, .int .u8 0, .int .u8 0, .nilFunc, .pointer none, .int .i32 0, .int .i32 0]⟩ :=
 ⟨ti1, ti2, ti3, ti4, ti5, ti6, ti7, ti8, ti9, ti10, ti11, ti12, ti13, ti14, ti15, ti16, ti17, ti18, ti19, ti20, ti21, ti22, ti23, ti24, ti26, ti27, ti28, ti30, ti31, ti32, ti33, ti34, ti35, ti36, ti37, ti38, ti39, ti40, ti42, ti43, ti44, ti45, ti46, ti47, ti48, ti49, ti50, ti51, ti52, ti53, ti54, ti55, ti56, ti57, ti59, ti60, ti61, ti62, ti64, ti65, ti67, ti68, ti69, ti70, ti71, ti72, ti73, ti75, ti76, ti78, ti79, ti80, ti81, ti82, ti83, ti84, ti85, ti86, ti87, ti88, ti89, ti90, ti91, ti92, ti94, ti95, ti96, ti97, ti99, ti100, ti102, ti103, ti105, ti106, ti107, ti108, ti109, ti110, ti111, ti112, ti114, ti115, ti117, ti118, ti119, ti120, ti121, ti122, ti123, ti124, ti125, ti126, ti127, ti128, ti129, ti130⟩
theorem mixed : Try.prog.follows .mixedOrders = true := by kernel_rfl
end Go.Proofs.Ytgbialeahdoelaa.Eng

end
