/- Functions on the small machine: what a body comes to, told to its callers. -/
import Derived.Test.YtlhhibhcoefolaaEngCode
namespace Go.Proofs.Ytlhhibhcoefolaa.Eng
open Go
set_option linter.unusedVariables false
set_option linter.unusedSimpArgs false
/-- Own rows let go, so that they read for good. -/
def fz (h : Nat → Option AObj) : AV → Option (AV × List Nat)
  | .d x => some (.d x, [])
  | .row o _ => match h o with
    | some (.row _ sz xs) => some (.d (.sl sz xs), [o])
    | _ => none
  | .agg l => match fzL h l with
    | some (l', k) => some (.agg l', k)
    | none => none
  | .tup l => match fzL h l with
    | some (l', k) => some (.tup l', k)
    | none => none
  | .fn f l => match fzL h l with
    | some (l', k) => some (.fn f l', k)
    | none => none
  | .ptr o off => match h o with
    | some (.cells _ cs) => match dats cs with
      | some ds => some (.ep ds off, [o])
      | none => none
    | _ => none
  | .ep cs off => some (.ep cs off, [])
  | _ => none
where fzL (h : Nat → Option AObj) : List AV → Option (List AV × List Nat)
  | [] => some ([], [])
  | c :: l => match fz h c, fzL h l with
    | some (c', k), some (l', k') => some (c' :: l', k ++ k')
    | _, _ => none
/-- No slice and no place: it stands in every memory. -/
def AV.flat : AV → Bool
  | .d (.v _) => true
  | .tup l => flatL l
  | .agg l => flatL l
  | _ => false
where flatL : List AV → Bool
  | [] => true
  | c :: l => c.flat && flatL l
mutual
theorem fz_ids {h : Nat → Option AObj} : ∀ {c c' : AV} {k : List Nat}, fz h c = some (c', k) → c'.ids = []
  | .d x, c', k, e => by cases e; rfl
  | .row o n, c', k, e => by
    simp only [fz] at e
    split at e
    · cases e; rfl
    · cases e
  | .agg l, c', k, e => by
    simp only [fz] at e
    split at e
    · rename_i l' k' hl; cases e; exact fzL_ids hl
    · cases e
  | .tup l, c', k, e => by
    simp only [fz] at e
    split at e
    · rename_i l' k' hl; cases e; exact fzL_ids hl
    · cases e
  | .fn f l, c', k, e => by
    simp only [fz] at e
    split at e
    · rename_i l' k' hl; cases e; exact fzL_ids hl
    · cases e
  | .ptr o off, _, _, e => by
    simp only [fz] at e
    split at e
    · split at e
      · cases e; rfl
      · cases e
    · cases e
  | .ep _ _, _, _, e => by cases e; rfl
  | .rp _ _ _ _, _, _, e => by cases e
  | .gd _ _, _, _, e => by cases e
  | .bad, _, _, e => by cases e
theorem fzL_ids {h : Nat → Option AObj} : ∀ {l l' : List AV} {k : List Nat}, fz.fzL h l = some (l', k) → AV.ids.idsL l' = []
  | [], l', k, e => by cases e; rfl
  | c :: l, l', k, e => by
    simp only [fz.fzL] at e
    split at e
    · rename_i c1 k1 l1 k2 h1 h2
      cases e
      simp [AV.ids.idsL, fz_ids h1, fzL_ids h2]
    · cases e
end
theorem idsL_nil {l : List AV} (h : AV.ids.idsL l = []) : ∀ c ∈ l, c.ids = [] := fun c hc => by
  induction l with
  | nil => cases hc
  | cons a l ih =>
    simp only [AV.ids.idsL, List.append_eq_nil_iff] at h
    rcases List.mem_cons.1 hc with rfl | hc
    · exact h.1
    · exact ih h.2 hc
section
variable {P : Program} {Γ : Gam} {C : Ctx} {m : Nat → Value} {w : World} {hp hp1 : Hp}
theorem fzL_length {h : Nat → Option AObj} : ∀ {l l' : List AV} {k : List Nat}, fz.fzL h l = some (l', k) → l'.length = l.length
  | [], l', k, e => by cases e; rfl
  | c :: l, l', k, e => by
    simp only [fz.fzL] at e
    split at e
    · rename_i c1 k1 l1 k2 h1 h2
      cases e
      simp [fzL_length h2]
    · cases e
mutual
theorem fz_val (I : Inv C m w hp) (hsub : ∀ o obj, hp1.get o = some obj → hp.get o = some obj) : ∀ {c c' : AV} {k : List Nat} {u : Value}, fz hp.get c = some (c', k) → (∀ o ∈ k, hp1.get o = none) → Val w (im C m w hp) m u c → Val w (im C m w hp1) m u c'
  | .d x, c', k, u, e, hk, hv => by cases e; exact hv.mono (I.drop hsub).2 (fun _ _ => rfl)
  | .row o n, c', k, u, e, hk, hv => by
    simp only [fz] at e
    split at e
    · rename_i e0 sz xs ho
      cases e
      cases hv with
      | row hm => exact .d (hm ▸ row_rd I ho hsub (hk o (by simp)))
    · cases e
  | .agg l, c', k, u, e, hk, hv => by
    simp only [fz] at e
    split at e
    · rename_i l' k' hl
      cases e
      cases hv with
      | agg hn hv => exact .agg (by rw [hn, fzL_length hl]) fun i u c h1 h2 => fzL_val I hsub hl hk i u c h2 fun c0 h0 => hv i u c0 h1 h0
    · cases e
  | .tup l, c', k, u, e, hk, hv => by
    simp only [fz] at e
    split at e
    · rename_i l' k' hl
      cases e
      cases hv with
      | tup hn hv => exact .tup (by rw [hn, fzL_length hl]) fun i u c h1 h2 => fzL_val I hsub hl hk i u c h2 fun c0 h0 => hv i u c0 h1 h0
    · cases e
  | .fn f l, c', k, u, e, hk, hv => by
    simp only [fz] at e
    split at e
    · rename_i l' k' hl
      cases e
      cases hv with
      | fn hn hv => exact .fn (by rw [hn, fzL_length hl]) fun i u c h1 h2 => fzL_val I hsub hl hk i u c h2 fun c0 h0 => hv i u c0 h1 h0
    · cases e
  | .ptr o off, c', k, u, e, hk, hv => by
    simp only [fz] at e
    split at e
    · rename_i e0 cs ho
      split at e
      · rename_i ds hds
        cases e
        have hcs := dats_get hds
        subst hcs
        cases hv with
        | @ptr _ _ b hm =>
        have hrd := cells_rd I hm ho hsub (hk o (by simp))
        have hrow : ∀ j x, ds[j]? = some x → (ds.map fun x => [x])[j]? = some [x] := fun j x hx => by rw [List.getElem?_map, hx]; rfl
        have ea : (⟨b, off, none⟩ : Addr) = (⟨b, 0, none⟩ : Addr).add off := by rw [addr_eta _ rfl]; simp
        rw [ea]
        cases hrd with
        | sl vs hs hl hc hi hz hw hr =>
          refine .ep (fun j => vs j 0) rfl (fun hne => hi (by simpa using hne)) (fun j x hx => ?_) (fun j x hx => hr j 0 [x] x (hrow j x hx) rfl)
          have := hw j 0 [x] x (hrow j x hx) rfl
          simpa using this
      · cases e
    · cases e
  | .ep cs off, c', k, u, e, hk, hv => by cases e; exact hv.mono (I.drop hsub).2 (fun o ho => by cases ho)
  | .rp _ _ _ _, _, _, _, e, _, _ => by cases e
  | .gd _ _, _, _, _, e, _, _ => by cases e
  | .bad, _, _, _, e, _, _ => by cases e
theorem fzL_val (I : Inv C m w hp) (hsub : ∀ o obj, hp1.get o = some obj → hp.get o = some obj) : ∀ {l l' : List AV} {k : List Nat}, fz.fzL hp.get l = some (l', k) → (∀ o ∈ k, hp1.get o = none) →
    ∀ (i : Nat) (u : Value) (c' : AV), l'[i]? = some c' → (∀ c, l[i]? = some c → Val w (im C m w hp) m u c) → Val w (im C m w hp1) m u c'
  | [], l', k, e, hk, i, u, c', hc', hv => by cases e; simp at hc'
  | c :: l, l', k, e, hk, i, u, c', hc', hv => by
    simp only [fz.fzL] at e
    split at e
    · rename_i c1 k1 l1 k2 h1 h2
      cases e
      cases i with
      | zero =>
        cases hc'
        exact fz_val I hsub h1 (fun o ho => hk o (List.mem_append.2 (.inl ho))) (hv c rfl)
      | succ i => exact fzL_val I hsub h2 (fun o ho => hk o (List.mem_append.2 (.inr ho))) i u c' (by simpa using hc') (fun c0 h0 => hv c0 (by simpa using h0))
    · cases e
end
mutual
theorem flat_val {w w' : World} {i i' : Nat → Prop} {m m' : Nat → Value} : ∀ {c : AV} {u : Value}, c.flat = true → Val w i m u c → Val w' i' m' u c
  | .d (.v x), u, _, h => by cases h with | d h => cases h with | v h => exact .d (.v h)
  | .d (.sl _ _), u, e, _ => by cases e
  | .tup l, u, e, h => by cases h with | tup hn h => exact .tup hn fun i u c h1 h2 => flatL_val (l := l) e i u c h2 (h i u c h1 h2)
  | .agg l, u, e, h => by cases h with | agg hn h => exact .agg hn fun i u c h1 h2 => flatL_val (l := l) e i u c h2 (h i u c h1 h2)
  | .ptr _ _, _, e, _ => by cases e
  | .ep _ _, _, e, _ => by cases e
  | .rp _ _ _ _, _, e, _ => by cases e
  | .row _ _, _, e, _ => by cases e
  | .fn _ _, _, e, _ => by cases e
  | .gd _ _, _, e, _ => by cases e
  | .bad, _, e, _ => by cases e
theorem flatL_val {w w' : World} {i i' : Nat → Prop} {m m' : Nat → Value} : ∀ {l : List AV}, AV.flat.flatL l = true → ∀ (j : Nat) (u : Value) (c : AV), l[j]? = some c → Val w i m u c → Val w' i' m' u c
  | [], _, j, u, c, hc, _ => by simp at hc
  | x :: l, e, j, u, c, hc, h => by
    simp only [AV.flat.flatL, Bool.and_eq_true] at e
    cases j with
    | zero => cases hc; exact flat_val e.1 h
    | succ j => exact flatL_val e.2 j u c (by simpa using hc) h
end
end
/-- The results, as the frame holds them. -/
def resL (P : Program) (s : St) : List ResultVar → Option (List AV)
  | [] => some []
  | .tmp t :: l => match resL P s l with
    | some r => some (s.look (.tmp t) :: r)
    | none => none
  | .cell a t :: l => match s.look (.tmp a), resL P s l with
    | .ptr o off, some r => match effLoad P s.hp.get t (.ptr o off) with
      | some e => some (e.val :: r)
      | none => none
    | _, _ => none
def resV (tmps : Array Value) : ResultVar → Sem Value
  | .tmp t => pure (tmps.getD t undef)
  | .cell x t => do loadVar t (← asAddr (tmps.getD x undef))
def one : List AV → AV
  | [c] => c
  | l => .tup l
def retQ (P : Program) (fn : Func) (res : AV) : Exit → St → Prop
  | .ret, s | .normal, s => match resL P s fn.results.toList with
    | some l => match fz s.hp.get (one l) with
      | some (c, _) => Sub c res
      | none => False
    | none => False
  | _, _ => False
section
variable {P : Program} {Γ : Gam} {C : Ctx} {m : Nat → Value} {w : World} {a : Act} {s : St} {D : Array Oper → St → (St → Prop) → Prop}
theorem results_ok (S : Sat C m s a w) : ∀ (rs : List ResultVar) (l : List AV), resL P s rs = some l → ∃ vs : List Value, (rs.mapM (resV a.tmps)).run P w = .ok vs w ∧
    vs.length = l.length ∧ ∀ (i : Nat) (u : Value) (c : AV), vs[i]? = some u → l[i]? = some c → Val w (im C m w s.hp) m u c
  | [], l, h => by cases h; exact ⟨[], by simp, rfl, by simp⟩
  | .tmp t :: rs, l, h => by
    simp only [resL] at h
    split at h
    · rename_i r hr
      cases h
      obtain ⟨vs, h1, h2, h3⟩ := results_ok S rs r hr
      refine ⟨a.tmps.getD t undef :: vs, by simp only [List.mapM_cons, resV, Sem.run_bind, Sem.run_pure, Result.andThen_ok, h1], by simp [h2], fun i u c e1 e2 => ?_⟩
      cases i with
      | zero => cases e1; cases e2; exact S.operands (.tmp t)
      | succ i => exact h3 i u c (by simpa using e1) (by simpa using e2)
    · cases h
  | .cell x t :: rs, l, h => by
    simp only [resL] at h
    split at h
    · rename_i o off r hx hr
      split at h
      · rename_i e he
        cases h
        obtain ⟨vs, h1, h2, h3⟩ := results_ok S rs r hr
        have hv := S.operands (.tmp x)
        rw [hx] at hv
        have hsc : e.sc := by
          simp only [effLoad] at he
          split at he
          · split at he
            · split at he
              · cases he; trivial
              · cases he
            · split at he
              · cases he; trivial
              · cases he
          · cases he
        obtain ⟨v, w', m', q1, q2, q3, q4, q5⟩ := effLoad_ok (P := P) (d := 0) S.inv he hsc hv
        have hup : e.up = [] ∧ w' = w ∧ e.new = false := by
          generalize hu : a.eval (.tmp x) = u at hv q1
          cases hv with
          | @ptr _ _ b hm =>
          simp only [Instr.loadAt, Instr.sureAddr, Sem.run_bind, Sem.run_pure, Result.andThen_ok] at q1
          have keep : ∀ (s : Sem Value) (v : Value) (w' : World), True := fun _ _ _ => trivial
          simp only [effLoad] at he
          split at he
          · rename_i T ety cs hT ho
            obtain ⟨b', us, g1, g2, g3, g4, g5⟩ := S.inv.live o _ ho
            rw [hm] at g1
            cases g1
            have hcell : ∀ j, j < us.size → w.cell? ⟨b, j, none⟩ = some (us.getD j default) := fun j hj => by simp [World.cell?, g2, hj]
            have hload := fun n (hn : off + n ≤ cs.length) => load_cells (P := P) (w := w) hT (a := ⟨b, off, none⟩) (us := fun j => us.getD (off + j) default) n
            simp only [Instr.loadAt, Instr.sureAddr, Sem.run_bind, Sem.run_pure, Result.andThen_ok] at hload
            split at he
            · rename_i ha
              split at he
              · rename_i hle
                cases he
                rw [hload T.sz hle (fun _ => Nat.le_refl _) (fun e => by rw [ha] at e; cases e) (fun j hj => by rw [addr_eta _ rfl]; exact hcell (off + j) (by omega))] at q1
                cases q1
                exact ⟨rfl, rfl, rfl⟩
              · cases he
            · rename_i ha
              split at he
              · rename_i hlt
                cases he
                rw [hload 1 hlt (fun e => absurd e ha) (fun _ => Nat.one_pos) (fun j hj => by rw [addr_eta _ rfl]; exact hcell (off + j) (by omega))] at q1
                cases q1
                exact ⟨rfl, rfl, rfl⟩
              · cases he
          · cases he
        obtain ⟨g1, rfl, g3⟩ := hup
        generalize hu : a.tmps.getD x undef = u at *
        have hua : a.eval (.tmp x) = u := hu
        rw [hua] at hv q1
        cases hv with
        | @ptr _ _ b hm =>
        simp only [Instr.loadAt, Instr.sureAddr, Sem.run_bind, Sem.run_pure, Result.andThen_ok] at q1
        have hm' : m' = m := by funext i; exact q2 i (by rw [g3]; intro h; cases h)
        rw [g1, hm'] at q4
        refine ⟨v :: vs, by simp only [List.mapM_cons, resV, Sem.run_bind, Sem.run_pure, Result.andThen_ok, h1, asAddr, hu, q1], by simp [h2], fun i u c e1 e2 => ?_⟩
        cases i with
        | zero => cases e1; cases e2; exact q4
        | succ i => exact h3 i u c (by simpa using e1) (by simpa using e2)
      · cases h
    · cases h
theorem results_run {fn : Func} {tmps : Array Value} {vs : List Value} (h : (fn.results.toList.mapM (resV tmps)).run P w = .ok vs w) : (results fn tmps).run P w = .ok (if h : vs.toArray.size = 1 then vs.toArray[0] else .tuple vs.toArray) w := by
  have hm : (fn.results.mapM (resV tmps)).run P w = .ok vs.toArray w := by
    rw [Array.mapM_eq_mapM_toList, Sem.run_map, h]
    rfl
  have e : results fn tmps = (fn.results.mapM (resV tmps) >>= fun vs => pure (if h : vs.size = 1 then vs[0] else .tuple vs)) := by
    unfold results
    congr
  rw [e, Sem.run_bind, hm]
  rfl
theorem one_val {im : Nat → Prop} {vs : List Value} {l : List AV} (hn : vs.length = l.length) (h : ∀ (i : Nat) (u : Value) (c : AV), vs[i]? = some u → l[i]? = some c → Val w im m u c) : Val w im m (if h : vs.toArray.size = 1 then vs.toArray[0] else .tuple vs.toArray) (one l) := by
  match vs, l, hn with
  | [], [], _ => exact .tup rfl (by simp)
  | [v], [c], _ => exact h 0 v c rfl rfl
  | v :: v' :: vs, c :: c' :: l, hn =>
    rw [dif_neg (by simp)]
    exact .tup (by simpa using hn) fun i u c h1 h2 => h i u c (by simpa using h1) h2
/-- What a body that keeps nothing comes to: the world has grown, no more. -/
def Calm (P : Program) (g : Nat) (args : List AV) (res : AV) : Prop :=
  (∃ fn, P.funcs[g]? = some fn ∧ (fn.name == "runtime.NumGoroutine") = false ∧ fn.body.isNone = false) ∧ res.ids = [] ∧
  ∀ (C : Ctx) (m : Nat → Value) (w : World) (hp : Hp) (vals : Array Value), Inv C m w hp → vals.size = args.length →
    (∀ (i : Nat) (u : Value) (c : AV), vals[i]? = some u → args[i]? = some c → Val w (im C m w hp) m u c) → Calls P g vals w fun en w' => ∃ v, en = .returned v ∧ w'.os = w.os ∧ w'.tape = w.tape ∧ w'.output = w.output ∧ w.heap.size ≤ w'.heap.size ∧
      (∀ k, k < w.heap.size → w'.heap[k]? = w.heap[k]?) ∧ Val w' (im C m w' hp) m v res
def startL : Nat → List AV → List (Nat × AV)
  | _, [] => []
  | i, c :: l => (i, c) :: startL (i + 1) l
theorem startL_lookup : ∀ (l : List AV) (i t : Nat) (c : AV), (startL i l).lookup t = some c → i ≤ t ∧ l[t - i]? = some c
  | [], _, _, _, h => by cases h
  | x :: l, i, t, c, h => by
    rw [startL, lookup_cons] at h
    split at h
    · rename_i e; cases h; subst e; simp
    · obtain ⟨h1, h2⟩ := startL_lookup l (i + 1) t c h
      refine ⟨by omega, ?_⟩
      rw [show t - i = (t - (i + 1)) + 1 by omega, List.getElem?_cons_succ]
      exact h2
/-- What is to be shown of a body. -/
def Body (P : Program) (Γ : Gam) (D : Array Oper → St → (St → Prop) → Prop) (g : Nat) (args : List AV) (res : AV) : Prop :=
  ∃ fn c, P.funcs[g]? = some fn ∧ (fn.name == "runtime.NumGoroutine") = false ∧ fn.body = some c ∧ (args.length ≤ fn.ntmps ∧ fn.ntmps ≤ 10000) ∧ wpc P Γ D c (retQ P fn res) { n := fn.ntmps, used := [], sl := startL 0 args, hp := [] }
theorem Body.calm (hG : Gok P Γ) (hD : DrawOk P Γ D) {g : Nat} {args : List AV} {res : AV} (hids : AV.ids.idsL args = []) (hres : res.ids = []) (h : Body P Γ D g args res) : Calm P g args res := by
  obtain ⟨fn, c, h1, h2, h3, h4, h5⟩ := h
  refine ⟨⟨fn, h1, h2, by rw [h3]; rfl⟩, hres, fun C m w hp vals I hsz hv => ?_⟩
  let C' : Ctx := ⟨w, fun _ => False, im C m w hp, fun b hb => hb.1, fun _ _ h => h, m, I.tab⟩
  have him : ∀ b, im C m w hp b → im C' m w [] b ∧ w.heap[b]? = w.heap[b]? := fun b hb => ⟨⟨hb.1, .inl hb, fun o obj ho => by simp [Hp.get] at ho⟩, rfl⟩
  have I' : Inv C' m w [] := ⟨rfl, rfl, rfl, Nat.le_refl _, fun _ _ _ => rfl, fun o obj ho => by simp [Hp.get] at ho, fun o o' obj obj' b ho => by simp [Hp.get] at ho, fun o obj b ho => by simp [Hp.get] at ho⟩
  have S : Sat C' m { n := fn.ntmps, used := [], sl := startL 0 args, hp := [] } { tmps := vals ++ Array.replicate (fn.ntmps - vals.size) undef, defers := [] } w := by
    refine ⟨I', by simp; omega, rfl, fun t c hl => ?_, fun o obj ho => by simp [Hp.get] at ho, h4.2, fun _ _ => rfl⟩
    obtain ⟨_, hc⟩ := startL_lookup args 0 t c hl
    simp only [Nat.sub_zero] at hc
    have ht : t < vals.size := by rw [hsz]; exact (List.getElem?_eq_some_iff.1 hc).1
    have hcm := idsL_nil hids c (List.mem_of_getElem? hc)
    refine ⟨?_, fun i hi => by rw [hcm] at hi; cases hi⟩
    have e : (vals ++ Array.replicate (fn.ntmps - vals.size) undef).getD t undef = vals.getD t undef := by
      simp [Array.getElem?_append, ht]
    simp only [e]
    exact (hv t _ c (by simp [ht]) hc).mono him (fun _ _ => rfl)
  refine calls_of_wp h1 h3 (wp_mono (wpc_ok hG hD c _ _ m _ w h5 S) fun e a' w' hq => ?_)
  obtain ⟨s', m', S', hq⟩ := hq
  have fin : retQ P fn res .ret s' → a'.defers = [] ∧ ∃ v, (results fn a'.tmps).run P w' = .ok v w' ∧ ∃ v', Ending.returned v = .returned v' ∧ w'.os = w.os ∧ w'.tape = w.tape ∧ w'.output = w.output ∧ w.heap.size ≤ w'.heap.size ∧
      (∀ k, k < w.heap.size → w'.heap[k]? = w.heap[k]?) ∧ Val w' (im C m w' hp) m v' res := fun hq => by
    refine ⟨S'.defers, ?_⟩
    unfold retQ at hq
    simp only at hq
    split at hq
    case h_2 => exact hq.elim
    rename_i l hl
    split at hq
    case h_2 => exact hq.elim
    rename_i c' k hc'
    obtain ⟨vs, q1, q2, q3⟩ := results_ok S' _ l hl
    have hone := one_val q2 q3
    have hfz := fz_val S'.inv (drops_sub k s'.hp) hc' (fun o ho => by rw [drops_get, if_pos ho]) hone
    replace hfz := hfz.sub hq
    have hsame : ∀ k, k < w.heap.size → w'.heap[k]? = w.heap[k]? := fun k hk => S'.inv.frame k hk (fun h => h)
    obtain ⟨Iw, _⟩ := I.ext S'.inv.os S'.inv.tape S'.inv.output S'.inv.size hsame
    refine ⟨_, results_run q1, _, rfl, S'.inv.os, S'.inv.tape, S'.inv.output, S'.inv.size, hsame, hfz.mono (fun b hb => ⟨?_, rfl⟩) (fun i hi => by rw [hres] at hi; cases hi)⟩
    obtain ⟨b1, b2, _⟩ := hb
    rcases b2 with b2 | b2 | b2
    · exact ⟨b1, b2.2.1, b2.2.2⟩
    · exact b2.elim
    · have b2 : w.heap.size ≤ b := b2
      refine ⟨b1, .inr (.inr (Nat.le_trans I.size b2)), fun o obj ho e => ?_⟩
      have := (I.live o obj ho).blk_lt b e
      omega
  cases e with
  | normal => exact fin hq
  | ret => exact fin hq
  | _ => exact hq.elim
def calmE (F : List AV → Option (Prop × AV)) (h : Nat → Option AObj) (args : List AV) : Option Eff :=
  match fz.fzL h args with
  | some (l, k) => match F l with
    | some (sc, res) => some { sc := sc, val := res, up := if res.flat then [] else drops k }
    | none => none
  | none => none
/-- One more function is known. -/
def Gam.add (Γ : Gam) (g0 : Nat) (F : List AV → Option (Prop × AV)) : Gam := fun g h d args => if g = g0 then calmE F h args else Γ g h d args
theorem Gok.add (hG : Gok P Γ) {g0 : Nat} {F : List AV → Option (Prop × AV)} (hF : ∀ args sc res, F args = some (sc, res) → sc → AV.ids.idsL args = [] → Calm P g0 args res) : Gok P (Γ.add g0 F) := by
  intro g h d args e he hsc C m w hp vals hh I hsz hv hf
  unfold Gam.add at he
  split at he
  case isFalse => exact hG g h d args e he hsc C m w hp vals hh I hsz hv hf
  rename_i hg
  subst hg
  subst hh
  unfold calmE at he
  split at he
  case h_2 => cases he
  rename_i l k hl
  split at he
  case h_2 => cases he
  rename_i sc res hr
  cases he
  obtain ⟨hen, hres, hc⟩ := hF l sc res hr hsc (fzL_ids hl)
  refine ⟨hen, ?_⟩
  have hsub := drops_sub k hp
  obtain ⟨I1, k1⟩ := I.drop hsub
  refine (hc C m w (drops k ++ hp) vals I1 (by rw [hsz, fzL_length hl]) (fun i u c h1 h2 => ?_)).mono fun en w' ⟨v, q1, q2, q3, q4, q5, q6, q7⟩ => ?_
  · refine fzL_val I hsub hl (fun o ho => by rw [drops_get, if_pos ho]) i u c h2 fun c0 h0 => hv i u c0 h1 h0
  · refine ⟨v, q1, m, fun _ _ => rfl, ?_⟩
    by_cases hfl : res.flat = true
    · obtain ⟨I2, k2⟩ := I.ext q2 q3 q4 q5 q6
      simp only [hfl, if_true, List.nil_append]
      exact ⟨I2, flat_val hfl q7, k2⟩
    · obtain ⟨I2, k2⟩ := I1.ext q2 q3 q4 q5 q6
      simp only [hfl, if_false]
      exact ⟨I2, q7, fun b hb => ⟨(k2 b (k1 b hb).1).1, (k2 b (k1 b hb).1).2⟩⟩
def Gam.none : Gam := fun _ _ _ _ => Option.none
theorem Gok.none : Gok P Gam.none := fun _ _ _ _ _ h => by cases h
end
end Go.Proofs.Ytlhhibhcoefolaa.Eng
