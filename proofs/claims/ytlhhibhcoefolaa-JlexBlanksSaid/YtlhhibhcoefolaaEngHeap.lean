/- Functions that are handed objects: names from 10000 on stand for what is handed in, the name 9000 for one row that is new behind the call. -/
import Derived.Test.YtlhhibhcoefolaaEngDrawEv
namespace Go.Proofs.Ytlhhibhcoefolaa.Eng
open Go
section
variable {P : Program} {Γ : Gam} {C : Ctx} {m : Nat → Value} {w : World} {hp hp2 : Hp}
/-- What is known, by other names. -/
theorem Inv.le (I : Inv C m w hp) {ρ : Nat → Nat} {born : List Nat} (h3 : hpR ρ born hp hp2) (h4 : distinct ρ born (liveIds hp2)) : ∃ m2 : Nat → Value, (∀ o, o ∉ born → m2 o = m (ρ o)) ∧ (∀ o ∈ born, m2 o = .slice none 0 0) ∧ Inv C m2 w hp2 ∧
    (∀ b, im C m w hp b → im C m2 w hp2 b) ∧ ∀ (u : Value) (c' c : AV), Val w (im C m w hp) m u c' → Mt ρ born c' c → Val w (im C m2 w hp2) m2 u c := by
  let m2 : Nat → Value := fun o => if o ∈ born then .slice none 0 0 else m (ρ o)
  have mb : ∀ o ∈ born, m2 o = .slice none 0 0 := fun o h => if_pos h
  have mn : ∀ o, o ∉ born → m2 o = m (ρ o) := fun o h => if_neg h
  have obj_of : ∀ o obj, hp2.get o = some obj → (o ∈ born ∧ ∃ e sz, obj = .row e sz []) ∨ (o ∉ born ∧ ∃ obj', hp.get (ρ o) = some obj' ∧ MtO ρ born obj' obj) := fun o obj ho => by
    have := hpR_all h3 _ (get_mem ho).1
    simp only at this
    split at this
    · rename_i hb
      refine .inl ⟨hb, ?_⟩
      cases obj with
      | cells _ cs => exact this.elim
      | row e sz xs => simp only at this; subst this; exact ⟨e, sz, rfl⟩
    · rename_i hb
      exact .inr ⟨hb, this⟩
  have him : ∀ b, im C m w hp b → im C m2 w hp2 b ∧ w.heap[b]? = w.heap[b]? := fun b hb => by
    refine ⟨⟨hb.1, hb.2.1, fun o obj ho => ?_⟩, rfl⟩
    rcases obj_of o obj ho with ⟨h, _⟩ | ⟨h, obj', h', _⟩
    · rw [mb o h]; simp [blk]
    · rw [mn o h]; exact hb.2.2 _ _ h'
  refine ⟨m2, mn, mb, ⟨I.os, I.tape, I.output, I.size, I.frame, fun o obj ho => ?_, fun o o' obj obj' b ho ho' hne hb => ?_, fun o obj b ho hb => ?_⟩, fun b hb => (him b hb).1, fun u c' c hv hm => (hv.mono him (fun _ _ => rfl)).mt mn mb hm⟩
  · rcases obj_of o obj ho with ⟨h, e, sz, rfl⟩ | ⟨h, obj', h', hmt⟩
    · exact ⟨[], by rw [mb o h]; exact World.ownsRow_nil w 0 e sz, by simp, by simp⟩
    · have := (I.live _ _ h').mono him (fun _ _ => rfl) rfl (fun _ _ => rfl)
      cases obj with
      | cells e l =>
        cases obj' with
        | row _ _ _ => exact hmt.elim
        | cells e' l' =>
          obtain ⟨rfl, hmt, hcell⟩ := hmt
          obtain ⟨b, us, q1, q2, q3, q4, q5⟩ := this
          refine ⟨b, us, by rw [mn o h]; exact q1, q2, by rw [q3]; exact MtL_length hmt, fun i u c r1 r2 => ?_, fun c hc => List.all_eq_true.1 hcell c hc⟩
          obtain ⟨y, r3, r4⟩ := MtL_get hmt i c r2
          exact (q4 i u y r1 r3).mt mn mb r4
      | row e sz xs =>
        cases obj' with
        | cells _ _ => exact hmt.elim
        | row e' sz' xs' =>
          obtain ⟨rfl, rfl, rfl⟩ := hmt
          obtain ⟨us, q1, q2⟩ := this
          exact ⟨us, by rw [mn o h]; exact q1, q2⟩
  · rcases obj_of o obj ho with ⟨h, _⟩ | ⟨h, x, hx, _⟩
    · rw [mb o h] at hb; cases hb
    · rcases obj_of o' obj' ho' with ⟨h', _⟩ | ⟨h', x', hx', _⟩
      · rw [mb o' h']; simp [blk]
      · rw [mn o h] at hb
        rw [mn o' h']
        exact I.sep _ _ _ _ b hx hx' (distinct_spec h4 o (get_mem ho).2 o' (get_mem ho').2 h h' hne) hb
  · rcases obj_of o obj ho with ⟨h, _⟩ | ⟨h, x, hx, _⟩
    · rw [mb o h] at hb; cases hb
    · rw [mn o h] at hb; exact I.own _ _ b hx hb
end
/-- What is to be shown at a return: the answer and the objects, by their names. -/
def retH (P : Program) (rs : List ResultVar) (res : AV) (hp' : Hp) : Exit → St → Prop
  | .ret, s | .normal, s => match resL P s rs with
    | some l => ∃ ρ : Nat → Nat, Mt (pr ρ) [] (one l) res ∧ hpR (pr ρ) [] s.hp hp' ∧ distinct (pr ρ) [] (liveIds hp')
    | none => False
  | _, _ => False
def HBody (P : Program) (Γ : Gam) (D : Array Oper → St → (St → Prop) → Prop) (g : Nat) (args : List AV) (chp : Hp) (res : AV) (hp' : Hp) : Prop :=
  ∃ fn c, P.funcs[g]? = some fn ∧ (fn.name == "runtime.NumGoroutine") = false ∧ fn.body = some c ∧ (args.length ≤ fn.ntmps ∧ fn.ntmps ≤ 10000) ∧ wpc P Γ D c (retH P fn.results.toList res hp') { n := fn.ntmps, used := upIds chp, sl := startL 0 args, hp := chp }
/-- What the call comes to: in the callee's own view. -/
def HCalm (P : Program) (g : Nat) (args : List AV) (chp : Hp) (res : AV) (hp' : Hp) : Prop :=
  (∃ fn, P.funcs[g]? = some fn ∧ (fn.name == "runtime.NumGoroutine") = false ∧ fn.body.isNone = false) ∧
  ∀ (C : Ctx) (m : Nat → Value) (w : World) (vals : Array Value), C.w0 = w → (∀ i, 10000 ≤ i → m i = C.pin i) → Inv C m w chp → vals.size = args.length →
    (∀ (i : Nat) (u : Value) (c : AV), vals[i]? = some u → args[i]? = some c → Val w (im C m w chp) m u c) → Calls P g vals w fun en w' => ∃ v mm, en = .returned v ∧ (∀ i, 10000 ≤ i → mm i = m i) ∧ Inv C mm w' hp' ∧ Val w' (im C mm w' hp') mm v res
section
variable {P : Program} {Γ : Gam} {D : Array Oper → St → (St → Prop) → Prop}
theorem HBody.calm (hG : Gok P Γ) (hD : DrawOk P Γ D) {g : Nat} {args : List AV} {chp : Hp} {res : AV} {hp' : Hp} (hids : subL (AV.ids.idsL args) (upIds chp) = true) (h : HBody P Γ D g args chp res hp') : HCalm P g args chp res hp' := by
  obtain ⟨fn, c, h1, h2, h3, h4, h5⟩ := h
  refine ⟨⟨fn, h1, h2, by rw [h3]; rfl⟩, fun C m w vals hw0 hpin I hsz hv => ?_⟩
  have S : Sat C m { n := fn.ntmps, used := upIds chp, sl := startL 0 args, hp := chp } { tmps := vals ++ Array.replicate (fn.ntmps - vals.size) undef, defers := [] } w := by
    refine ⟨I, by simp; omega, rfl, fun t c hl => ?_, fun o obj ho => upIds_mem (get_mem ho).1, h4.2, hpin⟩
    obtain ⟨_, hc⟩ := startL_lookup args 0 t c hl
    simp only [Nat.sub_zero] at hc
    have ht : t < vals.size := by rw [hsz]; exact (List.getElem?_eq_some_iff.1 hc).1
    refine ⟨?_, fun i hi => subL_mem hids i (idsL_mem hc i hi)⟩
    have e : (vals ++ Array.replicate (fn.ntmps - vals.size) undef).getD t undef = vals.getD t undef := by
      simp [Array.getElem?_append, ht]
    simp only [e]
    exact hv t _ c (by simp [ht]) hc
  refine calls_of_wp h1 h3 (wp_mono (wpc_ok hG hD c _ _ m _ w h5 S) fun e a' w' hq => ?_)
  obtain ⟨s', m', S', hq⟩ := hq
  have fin : retH P fn.results.toList res hp' .ret s' → a'.defers = [] ∧ ∃ v, (results fn a'.tmps).run P w' = .ok v w' ∧ ∃ v' mm, Ending.returned v = .returned v' ∧ (∀ i, 10000 ≤ i → mm i = m i) ∧ Inv C mm w' hp' ∧ Val w' (im C mm w' hp') mm v' res := fun hq => by
    refine ⟨S'.defers, ?_⟩
    unfold retH at hq
    simp only at hq
    split at hq
    case h_2 => exact hq.elim
    rename_i l hl
    obtain ⟨ρ, r1, r2, r3⟩ := hq
    obtain ⟨vs, q1, q2, q3⟩ := results_ok S' _ l hl
    have hone := one_val q2 q3
    obtain ⟨mm, n1, _, n2, _, n3⟩ := S'.inv.le r2 r3
    refine ⟨_, results_run q1, _, mm, rfl, fun i hi => ?_, n2, n3 _ _ _ hone r1⟩
    rw [n1 i (by simp), pr, if_pos hi, S'.pin i hi, hpin i hi]
  cases e with
  | normal => exact fin hq
  | ret => exact fin hq
  | _ => exact hq.elim
end
/-- Names turned. -/
def AV.rn (τ : Nat → Nat) : AV → AV
  | .ptr o f => .ptr (τ o) f
  | .row o n => .row (τ o) n
  | .rp o s i f => .rp (τ o) s i f
  | .agg l => .agg (rnL τ l)
  | .tup l => .tup (rnL τ l)
  | .fn g l => .fn g (rnL τ l)
  | .d x => .d x
  | .ep c f => .ep c f
  | _ => .bad
where rnL (τ : Nat → Nat) : List AV → List AV
  | [] => []
  | c :: l => c.rn τ :: rnL τ l
def AObj.rn (τ : Nat → Nat) : AObj → AObj
  | .cells e l => .cells e (AV.rn.rnL τ l)
  | .row e s xs => .row e s xs
theorem rnL_length (τ : Nat → Nat) : ∀ l, (AV.rn.rnL τ l).length = l.length
  | [] => rfl
  | _ :: l => by simp [AV.rn.rnL, rnL_length τ l]
theorem rnL_get (τ : Nat → Nat) : ∀ (l : List AV) (i : Nat) (c : AV), (AV.rn.rnL τ l)[i]? = some c → ∃ c0, l[i]? = some c0 ∧ c = c0.rn τ
  | [], _, _, h => by cases h
  | c0 :: l, 0, c, h => by cases h; exact ⟨c0, rfl, rfl⟩
  | _ :: l, i + 1, c, h => rnL_get τ l i c (by simpa [AV.rn.rnL] using h)
theorem rn_cell (τ : Nat → Nat) (c : AV) (h : c.cell = true) : (c.rn τ).cell = true := by cases c <;> first | rfl | cases h
theorem Val.rn {w : World} {im1 : Nat → Prop} {mm m' : Nat → Value} {τ : Nat → Nat} {u : Value} {c : AV} (h : Val w im1 mm u c) : (∀ i ∈ c.ids, m' (τ i) = mm i) → Val w im1 m' u (c.rn τ) := by
  induction h with
  | d r => exact fun _ => .d r
  | agg hn _ ih =>
    intro hm
    refine .agg (by rw [hn, rnL_length]) fun i u c h1 h2 => ?_
    obtain ⟨c0, h3, rfl⟩ := rnL_get τ _ i c h2
    exact ih i u c0 h1 h3 fun o ho => hm o (idsL_mem h3 o ho)
  | tup hn _ ih =>
    intro hm
    refine .tup (by rw [hn, rnL_length]) fun i u c h1 h2 => ?_
    obtain ⟨c0, h3, rfl⟩ := rnL_get τ _ i c h2
    exact ih i u c0 h1 h3 fun o ho => hm o (idsL_mem h3 o ho)
  | fn hn _ ih =>
    intro hm
    refine .fn (by rw [hn, rnL_length]) fun i u c h1 h2 => ?_
    obtain ⟨c0, h3, rfl⟩ := rnL_get τ _ i c h2
    exact ih i u c0 h1 h3 fun o ho => hm o (idsL_mem h3 o ho)
  | ptr e => exact fun hm => .ptr (by rw [hm _ (by simp [AV.ids])]; exact e)
  | row e => exact fun hm => .row (by rw [hm _ (by simp [AV.ids])]; exact e)
  | rp e => exact fun hm => .rp (by rw [hm _ (by simp [AV.ids])]; exact e)
  | ep vs hs hi hw hr => exact fun _ => .ep vs hs hi hw hr
  | gd _ _ => exact fun _ => .bad _
  | bad u => exact fun _ => .bad u
theorem ObjSat.rn {w : World} {im1 : Nat → Prop} {mm m' : Nat → Value} {τ : Nat → Nat} {i : Nat} {obj : AObj} (h : ObjSat w im1 mm i obj) (h0 : m' (τ i) = mm i) (hm : ∀ j ∈ obj.ids, m' (τ j) = mm j) : ObjSat w im1 m' (τ i) (obj.rn τ) := by
  cases obj with
  | cells e cs =>
    obtain ⟨b, us, h1, h2, h3, h4, h5⟩ := h
    refine ⟨b, us, by rw [h0]; exact h1, h2, by rw [rnL_length]; exact h3, fun i u c r1 r2 => ?_, fun c hc => ?_⟩
    · obtain ⟨c0, r3, rfl⟩ := rnL_get τ _ i c r2
      exact (h4 i u c0 r1 r3).rn fun o ho => hm o (idsL_mem r3 o ho)
    · obtain ⟨k, hk⟩ := List.getElem?_of_mem hc
      obtain ⟨c0, r3, rfl⟩ := rnL_get τ _ k c hk
      exact rn_cell τ c0 (h5 c0 (List.mem_of_getElem? r3))
  | row e sz xs =>
    obtain ⟨us, h1, h2, h3⟩ := h
    exact ⟨us, by rw [h0]; exact h1, h2, h3⟩
/-- A call with objects, as it is known. -/
structure HCall where
  sg : Nat → Nat
  born : List Nat
  args : List AV
  chp : Hp
  res : AV
  out : List (Nat × AObj)
  new : Bool
def HCall.hp' (X : HCall) : Hp := X.out.map fun p => (p.1, some p.2)
def HCall.τ (X : HCall) (d : Nat) (i : Nat) : Nat := if i = 9000 then d else X.sg i
def HCall.gone (X : HCall) : List Nat := (liveIds X.chp).filter fun i => !X.born.contains i && !(X.out.map (·.1)).contains i
def HCall.up (X : HCall) (d : Nat) : Hp := X.out.map (fun p => (X.τ d p.1, some (p.2.rn (X.τ d)))) ++ X.gone.map fun i => (X.sg i, none)
/-- The names are in order. -/
def HCall.tidy (X : HCall) : Bool :=
  (liveIds X.chp).all (fun i => Nat.ble 10000 i) && subL (AV.ids.idsL X.args) (upIds X.chp) && subL (X.res.ids ++ upIds X.hp') (X.out.map (·.1)) &&
  (X.out.map (·.1)).all (fun i => (i == 9000 && X.new) || ((liveIds X.chp).contains i && !X.born.contains i)) && decide (X.out.map (·.1)).Nodup
def HMatch (hp : Hp) (args : List AV) (X : HCall) : Prop := Mt.MtL X.sg X.born args X.args ∧ hpR X.sg X.born hp X.chp ∧ distinct X.sg X.born (liveIds X.chp)
theorem get_filter (p : Nat → Bool) : ∀ (hp : Hp) (o : Nat), Hp.get (hp.filter fun q => p q.1) o = if p o = true then hp.get o else none
  | [], o => by simp [Hp.get]
  | (a, x) :: hp, o => by
    rw [List.filter_cons]
    split
    · rename_i ha
      rw [Hp.get_cons, Hp.get_cons, get_filter p hp o]
      by_cases e : o = a
      · subst e; simp only [if_true]; rw [if_pos ha]
      · rw [if_neg e, if_neg e]
    · rename_i ha
      rw [get_filter p hp o, Hp.get_cons]
      by_cases e : o = a
      · subst e; rw [if_neg ha, if_neg ha]
      · rw [if_neg e]
theorem get_out : ∀ {l : List (Nat × AObj)} {i : Nat} {obj : AObj}, (i, obj) ∈ l → (l.map (·.1)).Nodup → Hp.get (l.map fun p => (p.1, some p.2)) i = some obj
  | (a, x) :: l, i, obj, h, hn => by
    rw [List.map_cons, Hp.get_cons]
    rw [List.map_cons, List.nodup_cons] at hn
    rcases List.mem_cons.1 h with e | h
    · cases e; rw [if_pos rfl]
    · have : i ≠ a := fun e => hn.1 (e ▸ List.mem_map.2 ⟨_, h, rfl⟩)
      rw [if_neg this]
      exact get_out h hn.2
theorem out_get : ∀ {l : List (Nat × AObj)} {i : Nat} {obj : AObj}, Hp.get (l.map fun p => (p.1, some p.2)) i = some obj → (i, obj) ∈ l
  | [], i, obj, h => by simp [Hp.get] at h
  | (a, x) :: l, i, obj, h => by
    rw [List.map_cons, Hp.get_cons] at h
    split at h
    · rename_i e; cases h; subst e; exact List.mem_cons_self
    · exact List.mem_cons_of_mem _ (out_get h)
theorem get_map_out (f : Nat → Nat) (g : AObj → AObj) : ∀ (l : List (Nat × AObj)) (hp : Hp) (o : Nat) (x : AObj), Hp.get (l.map (fun p => (f p.1, some (g p.2))) ++ hp) o = some x → (∃ i obj, (i, obj) ∈ l ∧ o = f i ∧ x = g obj) ∨ (hp.get o = some x ∧ ∀ p ∈ l, o ≠ f p.1)
  | [], hp, o, x, h => .inr ⟨h, fun p hp => by cases hp⟩
  | (a, y) :: l, hp, o, x, h => by
    rw [List.map_cons, List.cons_append, Hp.get_cons] at h
    split at h
    · rename_i e; cases h; exact .inl ⟨a, y, List.mem_cons_self, e, rfl⟩
    · rename_i e
      rcases get_map_out f g l hp o x h with ⟨i, obj, h1, h2⟩ | ⟨h1, h2⟩
      · exact .inl ⟨i, obj, List.mem_cons_of_mem _ h1, h2⟩
      · exact .inr ⟨h1, fun p hp => by
          rcases List.mem_cons.1 hp with rfl | hp
          · exact e
          · exact h2 p hp⟩
theorem get_gone (f : Nat → Nat) : ∀ (l : List Nat) (hp : Hp) (o : Nat) (x : AObj), Hp.get (l.map (fun i => (f i, none)) ++ hp) o = some x → hp.get o = some x ∧ ∀ i ∈ l, o ≠ f i
  | [], hp, o, x, h => ⟨h, fun i hi => by cases hi⟩
  | a :: l, hp, o, x, h => by
    rw [List.map_cons, List.cons_append, Hp.get_cons] at h
    split at h
    · cases h
    · rename_i e
      obtain ⟨h1, h2⟩ := get_gone f l hp o x h
      exact ⟨h1, fun i hi => by
        rcases List.mem_cons.1 hi with rfl | hi
        · exact e
        · exact h2 i hi⟩
section
variable {P : Program}
theorem HCalm.post {g : Nat} {X : HCall} (hc : HCalm P g X.args X.chp X.res X.hp') (ht : X.tidy = true) {C : Ctx} {m : Nat → Value} {w : World} {hp : Hp} {args : List AV} {vals : Array Value} {d : Nat} {e : Eff}
    (hM : HMatch hp args X) (e1 : e.val = X.res.rn (X.τ d)) (e2 : ∀ o, Hp.get (e.up ++ hp) o = Hp.get (X.up d ++ hp) o) (e3 : e.new = X.new) (I : Inv C m w hp) (hsz : vals.size = args.length)
    (hv : ∀ (i : Nat) (u : Value) (c : AV), vals[i]? = some u → args[i]? = some c → Val w (im C m w hp) m u c) (hf : e.new = true → Fr hp d) :
    (∃ fn, P.funcs[g]? = some fn ∧ (fn.name == "runtime.NumGoroutine") = false ∧ fn.body.isNone = false) ∧ Calls P g vals w fun en w' => ∃ v, en = .returned v ∧ Post C m w hp d e v w' := by
  obtain ⟨M1, M2, M3⟩ := hM
  simp only [HCall.tidy, Bool.and_eq_true] at ht
  obtain ⟨⟨⟨⟨t1, t2⟩, t3⟩, t4⟩, t5⟩ := ht
  have t5 := of_decide_eq_true t5
  -- who is handed over
  let pass : Nat → Bool := fun o => (liveIds X.chp).any fun i => !X.born.contains i && X.sg i == o
  let hp1 : Hp := hp.filter fun q => pass q.1
  have passed : ∀ i, i ∈ liveIds X.chp → i ∉ X.born → pass (X.sg i) = true := fun i h1 h2 => List.any_eq_true.2 ⟨i, h1, by simp [h2]⟩
  have hsub : ∀ o obj, hp1.get o = some obj → hp.get o = some obj ∧ pass o = true := fun o obj h => by
    rw [get_filter] at h
    split at h
    · exact ⟨h, by assumption⟩
    · cases h
  let C2 : Ctx := ⟨w, fun b => ∃ o obj, hp1.get o = some obj ∧ blk (m o) = some b, im C m w hp, fun b hb => hb.1, fun b hb ⟨o, obj, h1, h2⟩ => hb.2.2 o obj (hsub o obj h1).1 h2, fun _ => .nilFunc, I.tab⟩
  have him1 : ∀ b, im C m w hp b → im C2 m w hp1 b ∧ w.heap[b]? = w.heap[b]? := fun b hb => ⟨⟨hb.1, .inl hb, fun o obj ho => hb.2.2 o obj (hsub o obj ho).1⟩, rfl⟩
  have I1 : Inv C2 m w hp1 := ⟨rfl, rfl, rfl, Nat.le_refl _, fun _ _ _ => rfl, fun o obj ho => (I.live o obj (hsub o obj ho).1).mono him1 (fun _ _ => rfl) rfl (fun _ _ => rfl),
    fun o o' obj obj' b h1 h2 => I.sep o o' obj obj' b (hsub _ _ h1).1 (hsub _ _ h2).1, fun o obj b ho hb => .inl ⟨o, obj, ho, hb⟩⟩
  have hR1 : hpR X.sg X.born hp1 X.chp := by
    have key : ∀ (l : Hp), (∀ i ∈ liveIds l, i ∈ liveIds X.chp) → hpR X.sg X.born hp l → hpR X.sg X.born hp1 l := by
      intro l
      induction l with
      | nil => exact fun _ h => h
      | cons p l ih =>
        obtain ⟨a, x⟩ := p
        cases x with
        | none => exact fun h1 h2 => ih h1 h2
        | some x =>
          refine fun h1 h2 => ⟨?_, ih (fun i hi => h1 i (List.mem_cons_of_mem _ hi)) h2.2⟩
          have h3 := h2.1
          split
          · rename_i hb; rw [if_pos hb] at h3; exact h3
          · rename_i hb
            rw [if_neg hb] at h3
            rw [show hp1.get (X.sg a) = hp.get (X.sg a) by rw [get_filter, if_pos (passed a (h1 a List.mem_cons_self) hb)]]
            exact h3
    exact key X.chp (fun _ h => h) M2
  obtain ⟨m2, n1, n2, I2, n3, n4⟩ := I1.le hR1 M3
  let C3 : Ctx := { C2 with pin := m2 }
  have I3 : Inv C3 m2 w X.chp := ⟨I2.os, I2.tape, I2.output, I2.size, I2.frame, I2.live, I2.sep, I2.own⟩
  obtain ⟨hfn, hcall⟩ := hc
  refine ⟨hfn, (hcall C3 m2 w vals rfl (fun _ _ => rfl) I3 (by rw [hsz]; exact MtL_length M1) fun i u c h1 h2 => ?_).mono ?_⟩
  · obtain ⟨c', h3, h4⟩ := MtL_get M1 i c h2
    exact n4 u c' c ((hv i u c' h1 h3).mono him1 (fun _ _ => rfl)) h4
  rintro en w' ⟨v, mm, q1, q2, q3, q4⟩
  refine ⟨v, q1, ?_⟩
  -- behind the call
  let m' : Nat → Value := fun i => if X.new = true ∧ i = d then mm 9000 else m i
  have old : ∀ o, (e.new = true → o ≠ d) → m' o = m o := fun o h => if_neg fun ⟨h1, h2⟩ => h (e3.trans h1) h2
  have kinds : ∀ i ∈ X.out.map (·.1), (i = 9000 ∧ X.new = true) ∨ (i ≠ 9000 ∧ i ∈ liveIds X.chp ∧ i ∉ X.born) := fun i hi => by
    have := List.all_eq_true.1 t4 i hi
    simp only [Bool.or_eq_true, Bool.and_eq_true, beq_iff_eq, List.contains_iff_mem, Bool.not_eq_true', ← Bool.not_eq_true] at this
    rcases this with h | ⟨h1, h2⟩
    · exact .inl h
    · have h3 := List.all_eq_true.1 t1 i h1
      have h3 : 10000 ≤ i := Nat.le_of_ble_eq_true h3
      exact .inr ⟨by omega, h1, h2⟩
  have live1 : ∀ i, i ∈ liveIds X.chp → i ∉ X.born → ∃ obj, hp1.get (X.sg i) = some obj := fun i h1 h2 => by
    have : ∀ (l : Hp), hpR X.sg X.born hp1 l → i ∈ liveIds l → ∃ obj, hp1.get (X.sg i) = some obj := by
      intro l
      induction l with
      | nil => intro _ h; cases h
      | cons p l ih =>
        obtain ⟨a, x⟩ := p
        cases x with
        | none => exact fun h hi => ih h hi
        | some x =>
          intro h hi
          rcases List.mem_cons.1 hi with rfl | hi
          · have h3 := h.1
            rw [if_neg h2] at h3
            cases hg : hp1.get (X.sg i) with
            | none => rw [hg] at h3; exact h3.elim
            | some y => exact ⟨y, rfl⟩
          · exact ih h.2 hi
    exact this X.chp hR1 h1
  have hτ : ∀ i ∈ X.out.map (·.1), m' (X.τ d i) = mm i := fun i hi => by
    rcases kinds i hi with ⟨rfl, hn⟩ | ⟨h1, h2, h3⟩
    · rw [HCall.τ, if_pos rfl]; exact if_pos ⟨hn, rfl⟩
    · rw [HCall.τ, if_neg h1]
      obtain ⟨obj, ho⟩ := live1 i h2 h3
      rw [old _ fun hn => (hf hn _ _ (hsub _ _ ho).1).1, ← n1 i h3, q2 i (Nat.le_of_ble_eq_true (List.all_eq_true.1 t1 i h2))]
  have ids_in : ∀ i, i ∈ X.res.ids ++ upIds X.hp' → i ∈ X.out.map (·.1) := fun i hi => subL_mem t3 i hi
  have getup : ∀ o x, Hp.get (e.up ++ hp) o = some x → (∃ i obj, (i, obj) ∈ X.out ∧ o = X.τ d i ∧ x = obj.rn (X.τ d)) ∨ (hp.get o = some x ∧ hp1.get o = none) := fun o x h => by
    rw [e2 o, HCall.up, List.append_assoc] at h
    rcases get_map_out _ _ _ _ _ _ h with h | ⟨h1, h2⟩
    · exact .inl h
    · obtain ⟨h3, h4⟩ := get_gone _ _ _ _ _ h1
      refine .inr ⟨h3, ?_⟩
      rw [get_filter]
      split
      · rename_i hp0
        exfalso
        obtain ⟨i, h5, h6⟩ := List.any_eq_true.1 hp0
        simp only [Bool.and_eq_true, Bool.not_eq_true', beq_iff_eq] at h6
        by_cases hin : i ∈ X.out.map (·.1)
        · obtain ⟨p, hp2, rfl⟩ := List.mem_map.1 hin
          refine h2 p hp2 ?_
          have h7 : 10000 ≤ p.1 := Nat.le_of_ble_eq_true (List.all_eq_true.1 t1 _ h5)
          rw [HCall.τ, if_neg (by omega)]
          exact h6.2.symm
        · refine h4 i (List.mem_filter.2 ⟨h5, ?_⟩) h6.2.symm
          rw [h6.1]
          simpa using hin
      · rfl
  have own3 : ∀ b, C3.own0 b → ∃ o obj, hp1.get o = some obj ∧ blk (m o) = some b := fun b h => h
  -- the blocks
  have hkeep : ∀ b, im C m w hp b → w'.heap[b]? = w.heap[b]? := fun b hb => q3.frame b hb.1 fun h => by
    obtain ⟨o, obj, h1, h2⟩ := own3 b h
    exact hb.2.2 o obj (hsub o obj h1).1 h2
  have oldblk : ∀ o x b, hp.get o = some x → hp1.get o = none → blk (m o) = some b → w'.heap[b]? = w.heap[b]? := fun o x b h1 h2 h3 => q3.frame b ((I.live o x h1).blk_lt b h3) fun h => by
    obtain ⟨o', obj, h4, h5⟩ := own3 b h
    have hne : o ≠ o' := fun q => by subst q; rw [h2] at h4; cases h4
    exact I.sep o o' x obj b h1 (hsub _ _ h4).1 hne h3 h5
  have newblk : ∀ i obj b, (i, obj) ∈ X.out → blk (mm i) = some b → (∃ o x, hp1.get o = some x ∧ blk (m o) = some b) ∨ w.heap.size ≤ b := fun i obj b h1 h2 => q3.own i obj b (get_out h1 t5) h2
  have apart : ∀ o x i obj b, hp.get o = some x → hp1.get o = none → (i, obj) ∈ X.out → blk (mm i) = some b → blk (m o) ≠ some b := fun o x i obj b h1 h2 h3 h4 h5 => by
    rcases newblk i obj b h3 h4 with ⟨o', x', h6, h7⟩ | h6
    · have hne : o ≠ o' := fun q => by subst q; rw [h2] at h6; cases h6
      exact I.sep o o' x x' b h1 (hsub _ _ h6).1 hne h5 h7
    · have := (I.live o x h1).blk_lt b h5; omega
  have himp : ∀ b, im C3 mm w' X.hp' b → im C m' w' (e.up ++ hp) b := fun b hb => by
    refine ⟨hb.1, ?_, fun o x ho => ?_⟩
    · rcases hb.2.1 with h | ⟨o, obj, h1, h2⟩ | h
      · exact h.2.1
      · rcases I.own o obj b (hsub _ _ h1).1 h2 with h | h
        · exact .inr (.inl h)
        · exact .inr (.inr h)
      · exact .inr (.inr (Nat.le_trans I.size h))
    · rcases getup o x ho with ⟨i, obj, h1, rfl, rfl⟩ | ⟨h1, h2⟩
      · rw [hτ i (List.mem_map.2 ⟨_, h1, rfl⟩)]
        exact hb.2.2 i obj (get_out h1 t5)
      · rw [old o fun hn => (hf hn _ _ h1).1]
        intro h3
        rcases hb.2.1 with h | ⟨o', obj, h4, h5⟩ | h
        · exact h.2.2 o x h1 h3
        · have hne : o ≠ o' := fun q => by subst q; rw [h2] at h4; cases h4
          exact I.sep o o' x obj b h1 (hsub _ _ h4).1 hne h3 h5
        · have := (I.live o x h1).blk_lt b h3
          have h : w.heap.size ≤ b := h
          omega
  have himo : ∀ b, im C m w hp b → im C m' w' (e.up ++ hp) b ∧ w'.heap[b]? = w.heap[b]? := fun b hb => by
    refine ⟨⟨Nat.lt_of_lt_of_le hb.1 q3.size, hb.2.1, fun o x ho => ?_⟩, hkeep b hb⟩
    rcases getup o x ho with ⟨i, obj, h1, rfl, rfl⟩ | ⟨h1, h2⟩
    · rw [hτ i (List.mem_map.2 ⟨_, h1, rfl⟩)]
      intro h3
      rcases newblk i obj b h1 h3 with ⟨o, x, h4, h5⟩ | h4
      · exact hb.2.2 o x (hsub _ _ h4).1 h5
      · have := hb.1; omega
    · rw [old o fun hn => (hf hn _ _ h1).1]; exact hb.2.2 o x h1
  refine ⟨m', old, ⟨q3.os.trans I.os, q3.tape.trans I.tape, q3.output.trans I.output, Nat.le_trans I.size q3.size, fun b h1 h2 => ?_, fun o x ho => ?_, fun o o' x x' b ho ho' hne hb => ?_, fun o x b ho hb => ?_⟩, ?_, himo⟩
  · have hlt : b < w.heap.size := Nat.lt_of_lt_of_le h1 I.size
    rw [q3.frame b hlt fun h => by
      obtain ⟨o, obj, h3, h4⟩ := own3 b h
      rcases I.own o obj b (hsub _ _ h3).1 h4 with h | h
      · exact h2 h
      · omega]
    exact I.frame b h1 h2
  · rcases getup o x ho with ⟨i, obj, h1, rfl, rfl⟩ | ⟨h1, h2⟩
    · have hin : i ∈ X.out.map (·.1) := List.mem_map.2 ⟨_, h1, rfl⟩
      have hob := q3.live i obj (get_out h1 t5)
      have := hob.rn (m' := m') (τ := X.τ d) (hτ i hin) fun j hj => hτ j (ids_in j (List.mem_append.2 (.inr ((upIds_mem (get_mem (get_out h1 t5)).1).2 j hj))))
      exact this.mono (m' := m') (w' := w') (fun b hb => ⟨himp b hb, rfl⟩) (fun _ _ => rfl) rfl (fun _ _ => rfl)
    · exact (I.live o x h1).mono himo (fun b hb => oldblk o x b h1 h2 hb) (old o fun hn => (hf hn _ _ h1).1) fun i hi => old i fun hn q => (hf hn _ _ h1).2 (q ▸ hi)
  · rcases getup o x ho with ⟨i, obj, h1, rfl, rfl⟩ | ⟨h1, h2⟩ <;> rcases getup o' x' ho' with ⟨i', obj', h3, rfl, rfl⟩ | ⟨h3, h4⟩
    · rw [hτ i (List.mem_map.2 ⟨_, h1, rfl⟩)] at hb
      rw [hτ i' (List.mem_map.2 ⟨_, h3, rfl⟩)]
      exact q3.sep i i' obj obj' b (get_out h1 t5) (get_out h3 t5) (fun q => hne (by rw [q])) hb
    · rw [hτ i (List.mem_map.2 ⟨_, h1, rfl⟩)] at hb
      rw [old o' fun hn => (hf hn _ _ h3).1]
      exact apart o' x' i obj b h3 h4 h1 hb
    · rw [hτ i' (List.mem_map.2 ⟨_, h3, rfl⟩)]
      rw [old o fun hn => (hf hn _ _ h1).1] at hb
      exact fun q => apart o x i' obj' b h1 h2 h3 q hb
    · rw [old o fun hn => (hf hn _ _ h1).1] at hb
      rw [old o' fun hn => (hf hn _ _ h3).1]
      exact I.sep o o' x x' b h1 h3 hne hb
  · rcases getup o x ho with ⟨i, obj, h1, rfl, rfl⟩ | ⟨h1, h2⟩
    · rw [hτ i (List.mem_map.2 ⟨_, h1, rfl⟩)] at hb
      rcases newblk i obj b h1 hb with ⟨o', x', h4, h5⟩ | h4
      · exact I.own o' x' b (hsub _ _ h4).1 h5
      · exact .inr (Nat.le_trans I.size h4)
    · rw [old o fun hn => (hf hn _ _ h1).1] at hb
      exact I.own o x b h1 hb
  · rw [e1]
    exact ((q4.rn (m' := m') (τ := X.τ d) fun i hi => hτ i (ids_in i (List.mem_append.2 (.inl hi)))).mono (m' := m') (fun b hb => ⟨himp b hb, rfl⟩) fun _ _ => rfl)
end
/-- One more function is known, by what it does to the objects that it is handed. -/
def Gam.addH (Γ : Gam) (g0 : Nat) (F : (Nat → Option AObj) → Nat → List AV → Option Eff) : Gam := fun g h d args => if g = g0 then F h d args else Γ g h d args
theorem Gok.addH {P : Program} {Γ : Gam} (hG : Gok P Γ) {g0 : Nat} {F : (Nat → Option AObj) → Nat → List AV → Option Eff}
    (hF : ∀ (hp : Hp) d args e, F hp.get d args = some e → e.sc → ∃ X : HCall, X.tidy = true ∧ HMatch hp args X ∧ HCalm P g0 X.args X.chp X.res X.hp' ∧ e.val = X.res.rn (X.τ d) ∧ (∀ o, Hp.get (e.up ++ hp) o = Hp.get (X.up d ++ hp) o) ∧ e.new = X.new) : Gok P (Γ.addH g0 F) := by
  intro g h d args e he hsc C m w hp vals hh I hsz hv hf
  unfold Gam.addH at he
  split at he
  case isFalse => exact hG g h d args e he hsc C m w hp vals hh I hsz hv hf
  rename_i hg
  subst hg hh
  obtain ⟨X, ht, hM, hc, e1, e2, e3⟩ := hF hp d args e he hsc
  exact hc.post ht hM e1 e2 e3 I hsz hv hf
theorem Gloc.addH {Γ : Gam} (h : Gloc Γ) (g0 : Nat) {F : (Nat → Option AObj) → Nat → List AV → Option Eff} (hF : ∀ d args h h', Agree (AV.ids.idsL args) h h' → F h d args = F h' d args) : Gloc (Γ.addH g0 F) := fun g d args h1 h2 ha => by
  unfold Gam.addH
  split
  · exact hF d args h1 h2 ha
  · exact h g d args h1 h2 ha
/-- A body with objects, as Body.of. -/
def retHR (P : Program) (rs : List ResultVar) (res : AV) (hp' : Hp) : Exit → St → Prop := retH P rs res hp'
theorem HBody.of {P : Program} {Γ : Gam} {D : Array Oper → St → (St → Prop) → Prop} {g : Nat} {args : List AV} {chp : Hp} {res : AV} {hp' : Hp} {fn : Func} {c : Code} {n : Nat} (h1 : P.funcs[g]? = some fn) (hn : fn.ntmps = n) (h2 : (fn.name == "runtime.NumGoroutine") = false) (h3 : fn.body = some c) {rs : List ResultVar} (hr : fn.results = rs.toArray)
    (hl : (Nat.ble args.length n && Nat.ble n 10000) = true) {u : List Nat} (hu : upIds chp = u) (h : wpc P Γ D c (retHR P rs res hp') ⟨n, u, startL 0 args, chp⟩) : HBody P Γ D g args chp res hp' := ⟨fn, c, h1, h2, h3, by rw [hn]; rw [Bool.and_eq_true] at hl; exact ⟨Nat.le_of_ble_eq_true hl.1, Nat.le_of_ble_eq_true hl.2⟩, by
  have hr' : rs = fn.results.toList := by rw [hr]
  subst hr' hu
  rw [hn]; exact h⟩
def hpRh (ρ : Nat → Nat) (s res : Hp) : Prop := hpR ρ [] s res
def retHE (c : AV) (res : AV) (hp hp' : Hp) : Prop := ∃ ρ : Nat → Nat, Mt (pr ρ) [] c res ∧ hpR (pr ρ) [] hp hp' ∧ distinct (pr ρ) [] (liveIds hp')
def retHF (P : Program) (rs : List ResultVar) (res : AV) (hp' : Hp) (s : St) : Prop :=
  match resL P s rs with
  | some l => retHE (one l) res s.hp hp'
  | none => False
theorem evH : (∀ (P : Program) (rs : List ResultVar) (res : AV) (hp' : Hp) (s : St), retHR P rs res hp' .ret s = retHF P rs res hp' s) ∧ (∀ (P : Program) (rs : List ResultVar) (res : AV) (hp' : Hp) (s : St), retHR P rs res hp' .normal s = retHF P rs res hp' s) := ⟨fun _ _ _ _ _ => rfl, fun _ _ _ _ _ => rfl⟩
theorem Known.addH {P : Program} {Γ : Gam} (K : Known P Γ) {g0 : Nat} {F : (Nat → Option AObj) → Nat → List AV → Option Eff}
    (hF : ∀ (hp : Hp) d args e, F hp.get d args = some e → e.sc → ∃ X : HCall, X.tidy = true ∧ HMatch hp args X ∧ HCalm P g0 X.args X.chp X.res X.hp' ∧ e.val = X.res.rn (X.τ d) ∧ (∀ o, Hp.get (e.up ++ hp) o = Hp.get (X.up d ++ hp) o) ∧ e.new = X.new)
    (hl : ∀ d args h h', Agree (AV.ids.idsL args) h h' → F h d args = F h' d args) : Known P (Γ.addH g0 F) := ⟨K.ok.addH hF, K.loc.addH g0 hl⟩
theorem Known.hcalm {P : Program} {Γ : Gam} (hm : P.follows .mixedOrders = true) (K : Known P Γ) {g : Nat} {args : List AV} {chp : Hp} {res : AV} {hp' : Hp} (hids : subL (AV.ids.idsL args) (upIds chp) = true) (h : HBody P Γ (DRun P Γ) g args chp res hp') : HCalm P g args chp res hp' :=
  h.calm K.ok (Draws hm K.ok K.loc) hids
/-- What calls itself is known where less is left. -/
theorem Known.recur {P : Program} {Γ : Gam} (K : Known P Γ) {g0 : Nat} {F : List AV → Option (Prop × AV)} (μ : List AV → Nat)
    (hF : ∀ n, Known P (Γ.add g0 (lim F μ n)) → ∀ args sc res, F args = some (sc, res) → sc → μ args = n → Calm P g0 args res) : ∀ args sc res, F args = some (sc, res) → sc → Calm P g0 args res := by
  have key : ∀ n, ∀ args sc res, F args = some (sc, res) → sc → μ args = n → Calm P g0 args res := fun n => by
    induction n using Nat.strongRecOn with
    | ind n ih =>
      refine hF n ⟨K.ok.add fun args sc res h hs hi => ?_, K.loc.add g0 _⟩
      unfold lim at h
      split at h
      · rename_i sc' res' hf
        cases h
        exact ih _ hs.2 args _ _ hf hs.1 rfl
      · cases h
  exact fun args sc res h hs => key _ args sc res h hs rfl
theorem get_same (f : Nat → Nat) (g : AObj → AObj) (hp : Hp) : ∀ (l : List (Nat × AObj)), (∀ p ∈ l, hp.get (f p.1) = some (g p.2)) → ∀ o, Hp.get (l.map (fun p => (f p.1, some (g p.2))) ++ hp) o = hp.get o
  | [], _, o => rfl
  | p :: l, h, o => by
    rw [List.map_cons, List.cons_append, Hp.get_cons]
    split
    · rename_i e; rw [e]; exact (h p List.mem_cons_self).symm
    · exact get_same f g hp l (fun q hq => h q (List.mem_cons_of_mem _ hq)) o
/-- What was handed in is as it was. -/
theorem up_same {X : HCall} {d : Nat} {hp : Hp} (h1 : X.gone = []) (h2 : ∀ p ∈ X.out, hp.get (X.τ d p.1) = some (p.2.rn (X.τ d))) (o : Nat) : Hp.get ([] ++ hp) o = Hp.get (X.up d ++ hp) o := by
  rw [HCall.up, h1, List.map_nil, List.append_nil, get_same _ _ hp X.out h2]; rfl
theorem MtL_ds (ρ : Nat → Nat) (born : List Nat) : ∀ l : List Dat, Mt.MtL ρ born (l.map .d) (l.map .d)
  | [] => trivial
  | _ :: l => ⟨.inl rfl, MtL_ds ρ born l⟩
theorem evK : (∀ sl, lk sl (.const .nilIface) = .d (.v .nilIface)) ∧ (∀ sl, lk sl (.const (.pointer none)) = .d (.v (.pointer none))) ∧ (∀ sl, lk sl (.const .nilFunc) = .d (.v .nilFunc)) := ⟨fun _ => rfl, fun _ => rfl, fun _ => rfl⟩
theorem Mt_tup (ρ : Nat → Nat) (born : List Nat) (l' l : List AV) : Mt ρ born (.tup l') (.tup l) = Mt.MtL ρ born l' l := rfl
theorem Mt_agg (ρ : Nat → Nat) (born : List Nat) (l' l : List AV) : Mt ρ born (.agg l') (.agg l) = Mt.MtL ρ born l' l := rfl
theorem Mt_fn (ρ : Nat → Nat) (born : List Nat) (g' g : Nat) (l' l : List AV) : Mt ρ born (.fn g' l') (.fn g l) = (g' = g ∧ Mt.MtL ρ born l' l) := rfl
def limH (F : (Nat → Option AObj) → Nat → List AV → Option Eff) (μ : List AV → Nat) (n : Nat) (h : Nat → Option AObj) (d : Nat) (args : List AV) : Option Eff :=
  match F h d args with
  | some e => some { e with sc := e.sc ∧ μ args < n }
  | none => none
/-- What it is to know a function by its objects. -/
def HOk (P : Program) (g0 : Nat) (hp : Hp) (d : Nat) (args : List AV) (e : Eff) : Prop :=
  ∃ X : HCall, X.tidy = true ∧ HMatch hp args X ∧ HCalm P g0 X.args X.chp X.res X.hp' ∧ e.val = X.res.rn (X.τ d) ∧ (∀ o, Hp.get (e.up ++ hp) o = Hp.get (X.up d ++ hp) o) ∧ e.new = X.new
/-- What calls itself, with objects, is known where less is left. -/
theorem Gok.recurH {P : Program} {Γ : Gam} (hG : Gok P Γ) {g0 : Nat} {F : (Nat → Option AObj) → Nat → List AV → Option Eff} (μ : List AV → Nat)
    (hF : ∀ n, Gok P (Γ.addH g0 (limH F μ n)) → ∀ (hp : Hp) d args e, F hp.get d args = some e → e.sc → μ args = n → HOk P g0 hp d args e) : Gok P (Γ.addH g0 F) := by
  have key : ∀ n, ∀ (hp : Hp) d args e, F hp.get d args = some e → e.sc → μ args = n → HOk P g0 hp d args e := fun n => by
    induction n using Nat.strongRecOn with
    | ind n ih =>
      refine hF n (hG.addH fun hp d args e h hs => ?_)
      unfold limH at h
      split at h
      · rename_i e0 hf
        cases h
        exact ih _ hs.2 hp d args e0 hf hs.1 rfl
      · cases h
  exact hG.addH fun hp d args e h hs => key _ hp d args e h hs rfl
end Go.Proofs.Ytlhhibhcoefolaa.Eng
