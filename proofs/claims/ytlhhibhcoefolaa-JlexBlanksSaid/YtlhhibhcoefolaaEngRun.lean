/- A call's run on the small machine, and that the model's run is that. -/
import Derived.Test.YtlhhibhcoefolaaEngOp7
import Derived.Deep.LoopGhost
namespace Go.Proofs.Ytlhhibhcoefolaa.Eng
open Go
/-- What is known of a call in the middle of its run. -/
structure St where
  n : Nat
  used : List Nat
  sl : List (Nat × AV)
  hp : Hp
def avConst : Value → AV
  | .agg cs => if cs.toList.all Value.oneCell' = true then .agg (cs.toList.map fun u => .d (.v u)) else .bad
  | .tuple _ => .bad
  | v => .d (.v v)
def St.look (s : St) : Operand → AV
  | .tmp t => (s.sl.lookup t).getD .bad
  | .const v => avConst v
  | .func f => .fn f []
  | .global g => match tabL.lookup g with
    | some l => .ep (l.map .v) 0
    | none => .bad
def effCall (P : Program) (h : Nat → Option AObj) (d : Nat) (b : Builtin) (ts : List Nat) (l : List AV) : Option Eff :=
  match b, ts, l with
  | .len, [t], [x] => effLen P t x
  | .append, [t, tx], [s, x] => effAppend P h d t tx s x
  | .max, _, l => effFold mx l
  | .min, _, l => effFold mn l
  | _, _, _ => none
def eff (P : Program) (h : Nat → Option AObj) (look : Operand → AV) (d : Nat) : Op → Option Eff
  | .move x | .assign x => some { sc := True, val := look x }
  | .pick c a b => effPick (look c) (look a) (look b)
  | .alloc e => match ti P e with
    | some T => some { sc := True, val := .ptr d 0, up := [(d, some (.cells e (T.z.map fun u => .d (.v u))))], new := true }
    | none => none
  | .box t x => if allCell (look x).cells = true then some { sc := True, val := .ptr d 0, up := [(d, some (.cells t (look x).cells))], new := true } else none
  | .build t parts => effBuild P t (parts.toList.map fun p => (p.1, look p.2))
  | .buildSlice t n parts => effBuildSlice P h d t n (parts.toList.map fun p => (p.1, look p.2))
  | .load t a => effLoad P h t (look a)
  | .store t a x => effStore P h t (look a) (look x)
  | .nilCheck x => effNil (look x)
  | .binOp op t x y _ => effBinC P op t (isConst y) (look x) (look y)
  | .unOp op _ x => effUn op (look x)
  | .convert s t x => effConv P h s t (look x)
  | .makeFunc (.func f) first caps => if first = #[] then some { sc := True, val := .fn f (caps.toList.map look) } else none
  | .makeSlice t l c => effMakeSlice P d t (look l) (look c)
  | .slice t x lo hi none => effSlice P h d t (look x) (lo.map look) (hi.map look)
  | .fieldAddr s x f => effFieldAddr P s f (look x)
  | .field s x f => effField P s f (look x)
  | .indexAddr t x i => effIndexAddr P h t (look x) (look i)
  | .index t x i => effIndex P t (look x) (look i)
  | .extract t i => effExtract i (look t)
  | .call { callee := .builtin b, args := args, argTypes := ts } => effCall P h d b ts.toList (args.toList.map look)
  | _ => none
section
variable {P : Program} {C : Ctx} {m : Nat → Value} {w : World} {hp : Hp} {d : Nat} {sc : Prop}
/-- The world and the value behind an operation. -/
def Post (C : Ctx) (m : Nat → Value) (w : World) (hp : Hp) (d : Nat) (e : Eff) (v : Value) (w' : World) : Prop :=
  ∃ m', (∀ o, (e.new = true → o ≠ d) → m' o = m o) ∧ Inv C m' w' (e.up ++ hp) ∧ Val w' (im C m' w' (e.up ++ hp)) m' v e.val ∧ ∀ b, im C m w hp b → im C m' w' (e.up ++ hp) b ∧ w'.heap[b]? = w.heap[b]?
theorem Ok.post {e : Eff} {r : Result Value} (h : Ok C m w hp d e r) : ∃ v w', r = .ok v w' ∧ Post C m w hp d e v w' := by
  obtain ⟨v, w', m', h1, h2, h3, h4, h5⟩ := h
  exact ⟨v, w', h1, m', h2, h3, h4, h5⟩
/-- A value was told, or none. -/
def Tells (P : Program) (ρ : Operand → Value) (o : Oper) (w : World) (v : Value) (w' : World) : Prop :=
  (execOp ρ o).run P w = .ok (.value v) w' ∨ ((execOp ρ o).run P w = .ok .skip w' ∧ v = undef)
theorem Ok.tells {e : Eff} {s : Sem Value} (h : Ok C m w hp d e (s.run P w)) {ρ : Operand → Value} {o : Oper} (he : execOp ρ o = (do pure (.value (← s)))) : ∃ v w', Tells P ρ o w v w' ∧ Post C m w hp d e v w' := by
  obtain ⟨v, w', h1, h2⟩ := h.post
  exact ⟨v, w', .inl (by rw [he]; simp [h1]), h2⟩
theorem Val.of_operand {im : Nat → Prop} {s : St} {a : Act} (ht : TabsAt w im) (h : ∀ t c, s.sl.lookup t = some c → Val w im m (a.tmps.getD t undef) c) (x : Operand) : Val w im m (a.eval x) (s.look x) := by
  cases x with
  | tmp t =>
    show Val w im m (a.tmps.getD t undef) ((s.sl.lookup t).getD .bad)
    cases hl : s.sl.lookup t with
    | none => exact .bad _
    | some c => exact h t c hl
  | const v =>
    show Val w im m v (avConst v)
    unfold avConst
    split
    · rename_i cs
      split
      · rename_i hc
        obtain ⟨q1, q2⟩ := zero_vals (w := w) (imp := im) (m := m) hc
        exact .agg (by simp) fun i u c h1 h2 => q1 i u c (by simpa using h1) h2
      · exact .bad _
    · exact .bad _
    · refine .d (.v ?_)
      cases v <;> first | rfl | (simp_all; done)
  | func f => exact .fn (by simp) (by simp)
  | global g =>
    show Val w im m (.pointer (some ⟨g, 0, none⟩)) (match tabL.lookup g with | some l => .ep (l.map .v) 0 | none => .bad)
    cases hl : tabL.lookup g with
    | none => exact .bad _
    | some l =>
      obtain ⟨h1, h2⟩ := ht g l hl
      have e : (⟨g, 0, none⟩ : Addr) = (⟨g, 0, none⟩ : Addr).add 0 := by rw [addr_eta _ rfl]
      rw [e]
      refine .ep (a := ⟨g, 0, none⟩) (fun j => l.getD j .nilFunc) rfl (fun _ => h1) (fun j x hx => ?_) fun j x hx => ?_
      all_goals
        rw [List.getElem?_map] at hx
        cases hv : l[j]? with
        | none => rw [hv] at hx; cases hx
        | some v =>
          rw [hv] at hx
          cases hx
          have hg : l.getD j .nilFunc = v := by rw [List.getD_eq_getElem?_getD, hv]; rfl
          first
          | (rw [hg, addr_eta _ rfl]
             simp only [Nat.zero_add]
             exact (h2 j v hv).2)
          | (simp only [hg]; exact .v (h2 j v hv).1)
theorem eff_ok (I : Inv C m w hp) {ρ : Operand → Value} {look : Operand → AV} (hρ : ∀ x, Val w (im C m w hp) m (ρ x) (look x)) {o : Oper} {e : Eff} (he : eff P hp.get look d o.op = some e) (hs : e.sc) (hf : e.new = true → Fr hp d)
    (hids : ∀ x, ∀ i ∈ (look x).ids, e.new = true → i ≠ d) : ∃ v w', Tells P ρ o w v w' ∧ Post C m w hp d e v w' := by
  have pairs : ∀ parts : Array (Nat × Operand), (parts.map fun (i, x) => (i, ρ x)) = ((parts.toList.map fun p => (p.1, ρ p.2))).toArray := fun parts => by
    apply Array.ext'; simp
  have hpairs : ∀ parts : Array (Nat × Operand), ∀ (i : Nat) (p : Nat × Value) (q : Nat × AV), (parts.toList.map fun p => (p.1, ρ p.2))[i]? = some p → (parts.toList.map fun p => (p.1, look p.2))[i]? = some q → p.1 = q.1 ∧ Val w (im C m w hp) m p.2 q.2 := fun parts i p q h1 h2 => by
    rw [List.getElem?_map] at h1 h2
    cases hp : parts.toList[i]? with
    | none => rw [hp] at h1; cases h1
    | some x => rw [hp] at h1 h2; cases h1; cases h2; exact ⟨rfl, hρ _⟩
  have hargs : ∀ args : Array Operand, ∀ (i : Nat) (u : Value) (c : AV), (args.map ρ)[i]? = some u → (args.toList.map look)[i]? = some c → Val w (im C m w hp) m u c := fun args i u c h1 h2 => by
    rw [← Array.getElem?_toList, Array.toList_map, List.getElem?_map] at h1
    rw [List.getElem?_map] at h2
    cases hp : args.toList[i]? with
    | none => rw [hp] at h1; cases h1
    | some x => rw [hp] at h1 h2; cases h1; cases h2; exact hρ _
  have same : ∀ (v : Value) (c : AV), Val w (im C m w hp) m v c → e = { sc := True, val := c } → Post C m w hp d e v w := fun v c hv he => by subst he; exact ⟨m, fun _ _ => rfl, I, hv, fun _ h => ⟨h, rfl⟩⟩
  unfold eff at he
  split at he
  · rename_i x hop; cases he; exact ⟨ρ x, w, .inl (by simp [execOp, hop]), same _ _ (hρ x) rfl⟩
  · rename_i x hop; cases he; exact ⟨ρ x, w, .inl (by simp [execOp, hop]), same _ _ (hρ x) rfl⟩
  · rename_i c a b hop
    obtain ⟨v, w', h1, h2⟩ := (effPick_ok (P := P) (d := d) I he (hρ c) (hρ a) (hρ b)).post
    refine ⟨v, w', .inl ?_, h2⟩
    simp only [execOp, hop]
    simp only [Sem.run_bind, Sem.run_pure] at h1 ⊢
    cases hb : (asBool (ρ c)).run P w with
    | ok b w1 => rw [hb] at h1; simp only [Result.andThen_ok] at h1 ⊢; cases h1; rfl
    | halt h w1 => rw [hb] at h1; cases h1
  · rename_i e0 hop
    split at he
    case h_2 => cases he
    rename_i T hT
    cases he
    obtain ⟨_, _, _, _, _, _, _, _, _, _, _, hone⟩ := ti_info hT
    obtain ⟨z, hz1, hz2⟩ := run_zero (P := P) (w := w) hT
    obtain ⟨q1, q2⟩ := zero_vals (w := w) (imp := im C m w hp) (m := m) hone
    have hzc : z.cells = T.z.toArray := by rw [← hz2]
    have no : ∀ l : List Value, AV.ids.idsL (l.map fun u => AV.d (.v u)) = [] := fun l => by
      induction l with
      | nil => rfl
      | cons a l ih => simp [AV.ids.idsL, AV.ids, ih]
    have := Ok.alloc (sc := True) (e := e0) I (hf rfl) (us := T.z.toArray) (cs := T.z.map fun u => .d (.v u)) (by simp) q1 q2 (by rw [no]; simp)
    refine Ok.tells (s := Instr.alloc e0 true (.tuple #[])) ?_ (by simp [execOp, hop])
    have hr : (Instr.alloc e0 true (.tuple #[])).run P w = .ok (.pointer (some ⟨w.heap.size, 0, none⟩)) (w.alloc (.cells T.z.toArray e0)) := by
      simp only [Instr.alloc, Sem.run_bind, hz1, Result.andThen_ok, newVar, newRow, hzc, run_newObj, Sem.run_pure]; rfl
    rw [hr]
    exact this
  · rename_i e0 x hop
    split at he
    case isFalse => cases he
    rename_i hc
    cases he
    obtain ⟨q1, q2, _⟩ := (hρ x).cells hc
    have hnot : d ∉ AV.ids.idsL (look x).cells := fun h => by
      refine hids x d ?_ rfl rfl
      revert h
      cases look x <;> simp [AV.cells, AV.ids.idsL, AV.ids]
    have := Ok.alloc (sc := True) (e := e0) I (hf rfl) q1 q2 hc hnot
    refine Ok.tells (s := Instr.box e0 (ρ x)) ?_ (by simp [execOp, hop])
    have hr : (Instr.box e0 (ρ x)).run P w = .ok (.pointer (some ⟨w.heap.size, 0, none⟩)) (w.alloc (.cells (ρ x).cells e0)) := by
      simp only [Instr.box, Sem.run_bind, Result.andThen_ok, newVar, newRow, run_newObj, Sem.run_pure]; rfl
    rw [hr]
    exact this
  · rename_i t parts hop
    refine Ok.tells (effBuild_ok I he (by simp) (hpairs parts)) (by simp only [execOp, hop, pairs])
  · rename_i t n parts hop
    refine Ok.tells (effBuildSlice_ok I he (by simp) hf (hpairs parts)) (by simp only [execOp, hop, pairs])
  · rename_i t a hop; exact Ok.tells (effLoad_ok I he hs (hρ a)) (by simp only [execOp, hop])
  · rename_i t a x hop
    obtain ⟨w', h1, h2, h3⟩ := effStore_ok I he hs (hρ a) (hρ x)
    have hnew : e.val = .bad ∧ e.new = false := by
      unfold effStore at he
      split at he
      · split at he
        · split at he
          · cases he; exact ⟨rfl, rfl⟩
          · cases he
        · cases he
      · split at he
        · split at he
          · cases he; exact ⟨rfl, rfl⟩
          · cases he
        · cases he
      · cases he
    exact ⟨undef, w', .inr ⟨by simp only [execOp, hop, Sem.run_bind, h1, Result.andThen_ok, Sem.run_pure], rfl⟩, m, fun _ _ => rfl, h2, by rw [hnew.1]; exact .bad _, h3⟩
  · rename_i x hop
    obtain ⟨u, h1, h2⟩ := effNil_ok (P := P) (d := d) (ρ := ρ) I hop he (hρ x)
    obtain ⟨v, w', h3, h4⟩ := h2.post
    cases h3
    exact ⟨u, w, .inl h1, h4⟩
  · rename_i op t x y yt hop; exact Ok.tells (effBinC_ok (ox := x) (oy := y) I he hs (hρ x) (hρ y)) (by simp only [execOp, hop])
  · rename_i op t x hop; exact Ok.tells (effUn_ok I he (hρ x)) (by simp only [execOp, hop])
  · rename_i s t x hop; exact Ok.tells (effConv_ok I he hs (hρ x)) (by simp only [execOp, hop])
  · rename_i f first caps hop
    split at he
    case isFalse => cases he
    rename_i hfi
    cases he
    subst hfi
    exact ⟨.func (.func f) #[] (caps.map ρ), w, .inl (by simp [execOp, hop, Instr.makeFunc]), same _ _ (.fn (by simp) (hargs caps)) rfl⟩
  · rename_i t l c hop; exact Ok.tells (effMakeSlice_ok I he hs hf (hρ l) (hρ c)) (by simp only [execOp, hop])
  · rename_i t x lo hi hop
    have opt : ∀ o : Option Operand, OptVal w (im C m w hp) m (o.map ρ) (o.map look) := fun o => by cases o <;> simp [OptVal, hρ]
    exact Ok.tells (effSlice_ok I he hs hf (hρ x) (opt lo) (opt hi)) (by simp only [execOp, hop, Option.map_none])
  · rename_i s x f hop; exact Ok.tells (effFieldAddr_ok I he (hρ x)) (by simp only [execOp, hop])
  · rename_i s x f hop; exact Ok.tells (effField_ok I he (hρ x)) (by simp only [execOp, hop])
  · rename_i t x i hop; exact Ok.tells (effIndexAddr_ok I he hs (hρ x) (hρ i)) (by simp only [execOp, hop])
  · rename_i t x i hop; exact Ok.tells (effIndex_ok I he hs (hρ x) (hρ i)) (by simp only [execOp, hop])
  · rename_i t i hop; exact Ok.tells (effExtract_ok I he (hρ t)) (by simp only [execOp, hop])
  · rename_i b args ts hop
    unfold effCall at he
    have e0 : ∀ s : Sem Value, builtin b ts o.type (args.map fun | .const _ => true | _ => false) (args.map ρ) = (do pure (.value (← s))) → execOp ρ o = (do pure (.value (← s))) := fun s h => by
      rw [← h]
      simp only [execOp, hop, resolve, invoke]
      rfl
    split at he
    · rename_i t x hts hl
      obtain ⟨args⟩ := args
      obtain ⟨ts⟩ := ts
      simp only at hts hl
      subst hts
      cases args with
      | nil => simp at hl
      | cons y args =>
        cases args with
        | cons _ _ => simp at hl
        | nil =>
          simp only [List.map_cons, List.map_nil, List.cons.injEq, and_true] at hl
          subst hl
          refine Ok.tells (s := Builtin.len_ #[t] o.type #[ρ y]) (effLen_ok I he (hρ y)) (e0 _ ?_)
          simp [builtin]
    · rename_i t tx s x hts hl
      obtain ⟨args⟩ := args
      obtain ⟨ts⟩ := ts
      simp only at hts hl
      subst hts
      cases args with
      | nil => simp at hl
      | cons y args =>
        cases args with
        | nil => simp at hl
        | cons y2 args =>
          cases args with
          | cons _ _ => simp at hl
          | nil =>
            simp only [List.map_cons, List.map_nil, List.cons.injEq, and_true] at hl
            obtain ⟨rfl, rfl⟩ := hl
            refine Ok.tells (s := Builtin.append_ #[t, tx] o.type #[ρ y, ρ y2]) (effAppend_ok I he hs hf (hρ y) (hρ y2)) (e0 _ ?_)
            simp [builtin]
    · obtain ⟨x, rest, h1, h2⟩ := effFold_ok (P := P) (d := d) (g := Builtin.max2) I (fun k a b w => by simp [Builtin.max2, mx]) he (by simp) (hargs args)
      refine Ok.tells (s := Builtin.max_ ts o.type (args.map ρ)) ?_ (e0 _ (by simp [builtin]))
      simp only [Builtin.max_, h1]
      exact h2
    · obtain ⟨x, rest, h1, h2⟩ := effFold_ok (P := P) (d := d) (g := Builtin.min2) I (fun k a b w => by simp [Builtin.min2, mn]) he (by simp) (hargs args)
      refine Ok.tells (s := Builtin.min_ ts o.type (args.map ρ)) ?_ (e0 _ (by simp [builtin]))
      simp only [Builtin.min_, h1]
      exact h2
    · cases he
  · cases he
end
end Go.Proofs.Ytlhhibhcoefolaa.Eng
