/- Regions, branches, loops and calls on the small machine. -/
import Derived.Test.YtlhhibhcoefolaaEngRun
namespace Go.Proofs.Ytlhhibhcoefolaa.Eng
open Go
set_option linter.unusedVariables false
set_option linter.unusedSimpArgs false
/-- What is known of the functions that are called: the answer, by the function, the heap, the slot and the arguments. -/
abbrev Gam := Nat → (Nat → Option AObj) → Nat → List AV → Option Eff
def Gok (P : Program) (Γ : Gam) : Prop :=
  ∀ g h d args e, Γ g h d args = some e → e.sc → ∀ (C : Ctx) (m : Nat → Value) (w : World) (hp : Hp) (vals : Array Value), h = hp.get → Inv C m w hp → vals.size = args.length →
    (∀ (i : Nat) (u : Value) (c : AV), vals[i]? = some u → args[i]? = some c → Val w (im C m w hp) m u c) → (e.new = true → Fr hp d) →
    (∃ fn, P.funcs[g]? = some fn ∧ (fn.name == "runtime.NumGoroutine") = false ∧ fn.body.isNone = false) ∧ Calls P g vals w fun en w' => ∃ v, en = .returned v ∧ Post C m w hp d e v w'
def St.effOf (P : Program) (Γ : Gam) (s : St) (d : Nat) : Op → Option Eff
  | .call { callee := .value f, args := args, .. } => match s.look f with
    | .fn g caps => Γ g s.hp.get d (args.toList.map s.look ++ caps)
    | _ => none
  | op => eff P s.hp.get s.look d op
def subL (l used : List Nat) : Bool := l.all fun i => used.contains i
def upIds : Hp → List Nat
  | [] => []
  | (o, some obj) :: l => o :: obj.ids ++ upIds l
  | (_, none) :: l => upIds l
def St.upd (s : St) (o : Oper) (e : Eff) : St :=
  { n := s.n, used := if e.new then o.dst.getD 0 :: s.used else s.used, sl := match o.dst with | some d => (d, e.val) :: s.sl | none => s.sl, hp := e.up ++ s.hp }
/-- The slot is there, a new object's name is new, and all names are known. -/
def St.okB (s : St) (o : Oper) (e : Eff) : Bool :=
  (match o.dst with | some d => decide (d < s.n) | none => !e.new) && (!e.new || !(s.used.contains (o.dst.getD 0))) && subL (e.val.ids ++ upIds e.up) (s.upd o e).used
def boolOf : AV → Option (List Bool × Bool)
  | .d (.v (.bool b)) => some ([], b)
  | .gd gs (.d (.v (.bool b))) => some (gs, b)
  | _ => none
def St.guard (s : St) (ops : Array Oper) (j : Nat) : Option (List Bool × Bool) :=
  match (ops[j]?).bind (·.dst) with
  | some t => boolOf (s.look (.tmp t))
  | none => none
/-- What holds where the guarded operation is carried out. -/
def gOf (p : List Bool × Bool) (want : Bool) : List Bool := p.1 ++ [if want then p.2 else !p.2]
def St.at (s : St) (G : List Bool) : St := { s with sl := s.sl.map fun p => (p.1, unw G p.2) }
def runOp (P : Program) (Γ : Gam) (ops : Array Oper) (o : Oper) (s : St) (K : St → Prop) : Prop :=
  match o.guard with
  | none => match s.effOf P Γ (o.dst.getD 0) o.op with
    | some e => s.okB o e = true ∧ e.sc ∧ K (s.upd o e)
    | none => False
  | some (j, want) => match s.guard ops j, o.dst with
    | some p, some d => match (s.at (gOf p want)).effOf P Γ d o.op with
      | some e => match e.up.isEmpty && !e.new with
        | true => d < s.n ∧ subL e.val.ids s.used = true ∧ (allB (gOf p want) = true → e.sc) ∧ K { s with sl := (d, .gd (gOf p want) e.val) :: s.sl }
        | false => d < s.n ∧ if allB (gOf p want) = true then s.okB o e = true ∧ e.sc ∧ K (s.upd o e) else K { s with sl := (d, .gd (gOf p want) .bad) :: s.sl }
      | none => d < s.n ∧ allB (gOf p want) = false ∧ K { s with sl := (d, .gd (gOf p want) .bad) :: s.sl }
    | _, _ => False
def runOps (P : Program) (Γ : Gam) (ops : Array Oper) : List Oper → St → (St → Prop) → Prop
  | [], s, K => K s
  | o :: os, s, K => runOp P Γ ops o s fun s' => runOps P Γ ops os s' K

structure Sat (C : Ctx) (m : Nat → Value) (s : St) (a : Act) (w : World) : Prop where
  inv : Inv C m w s.hp
  size : a.tmps.size = s.n
  defers : a.defers = []
  slots : ∀ t c, s.sl.lookup t = some c → Val w (im C m w s.hp) m (a.tmps.getD t undef) c ∧ ∀ i ∈ c.ids, i ∈ s.used
  heap : ∀ o obj, s.hp.get o = some obj → o ∈ s.used ∧ ∀ i ∈ obj.ids, i ∈ s.used
  small : s.n ≤ 10000
  pin : ∀ i, 10000 ≤ i → m i = C.pin i
theorem subL_mem {l used : List Nat} (h : subL l used = true) : ∀ i ∈ l, i ∈ used := fun i hi => by simpa using List.all_eq_true.1 h i hi
theorem upIds_get : ∀ {up : Hp} {hp : Hp} {o : Nat} {obj : AObj}, Hp.get (up ++ hp) o = some obj → (o ∈ upIds up ∧ ∀ i ∈ obj.ids, i ∈ upIds up) ∨ hp.get o = some obj
  | [], _, _, _, h => .inr h
  | (a, x) :: up, hp, o, obj, h => by
    rw [List.cons_append, Hp.get_cons] at h
    by_cases e : o = a
    · rw [if_pos e] at h
      subst e
      subst h
      exact .inl ⟨by simp [upIds], fun i hi => by simp [upIds, hi]⟩
    · rw [if_neg e] at h
      rcases upIds_get h with ⟨h1, h2⟩ | h1
      · refine .inl ⟨?_, fun i hi => ?_⟩ <;> cases x <;> simp [upIds, h1, h2] <;> simp_all
      · exact .inr h1
theorem put_getD (a : Act) (d : Nat) (v : Value) (t : Nat) (h : d < a.tmps.size) : (a.put (some d) v).tmps.getD t undef = if t = d then v else a.tmps.getD t undef := by
  simp only [Act.put, Array.getD_eq_getD_getElem?]
  by_cases e : t = d
  · subst e
    simp [h]
  · rw [Array.getElem?_setIfInBounds_ne (fun q => e q.symm), if_neg e]
theorem lookup_cons (t d : Nat) (c : AV) (l : List (Nat × AV)) : List.lookup t ((d, c) :: l) = if t = d then some c else List.lookup t l := by
  by_cases e : t = d
  · subst e; simp
  · rw [if_neg e, List.lookup_cons, beq_eq_false_iff_ne.2 e]
section
variable {P : Program} {Γ : Gam} {C : Ctx} {m : Nat → Value} {w : World} {a : Act} {s : St}
theorem Sat.next (S : Sat C m s a w) {o : Oper} {e : Eff} {v : Value} {w' : World} (hok : s.okB o e = true) (h : Post C m w s.hp (o.dst.getD 0) e v w') : ∃ m', Sat C m' (s.upd o e) (a.put o.dst v) w' := by
  obtain ⟨m', h1, h2, h3, h4⟩ := h
  simp only [St.okB, Bool.and_eq_true] at hok
  obtain ⟨⟨k1, k2⟩, k3⟩ := hok
  have hused : ∀ i, i ∈ s.used → i ∈ (s.upd o e).used := fun i hi => by
    simp only [St.upd]
    split
    · exact List.mem_cons_of_mem _ hi
    · exact hi
  have hm : ∀ i, i ∈ s.used → m' i = m i := fun i hi => h1 i fun hn e0 => by
    simp only [hn, Bool.not_true, Bool.false_or, Bool.not_eq_true'] at k2
    rw [e0] at hi
    simp [hi] at k2
  have hsub := subL_mem k3
  refine ⟨m', h2, ?_, ?_, fun t c hl => ?_, fun o' obj ho => ?_, S.small, fun i hi => (h1 i fun hn e0 => ?_).trans (S.pin i hi)⟩
  rotate_right
  · have hs := S.small
    cases hd : o.dst with
    | none => simp [hd, hn] at k1
    | some d =>
      have k1' : d < s.n := by simpa [hd] using k1
      simp only [hd, Option.getD_some] at e0
      exact absurd (Nat.lt_of_lt_of_le k1' hs) (by rw [← e0]; exact Nat.not_lt.mpr hi)
  · cases o.dst <;> simp [Act.put, St.upd, S.size]
  · cases o.dst <;> exact S.defers
  · have old : s.sl.lookup t = some c → Val w' (im C m' w' (e.up ++ s.hp)) m' (a.tmps.getD t undef) c ∧ ∀ i ∈ c.ids, i ∈ (s.upd o e).used := fun hl => by
      obtain ⟨q1, q2⟩ := S.slots t c hl
      exact ⟨q1.mono h4 fun i hi => hm i (q2 i hi), fun i hi => hused i (q2 i hi)⟩
    cases hd : o.dst with
    | none =>
      simp only [St.upd, hd] at hl
      exact old hl
    | some d =>
      simp only [hd, decide_eq_true_eq] at k1
      simp only [St.upd, hd] at hl
      rw [lookup_cons] at hl
      rw [put_getD a d v t (by rw [S.size]; exact k1)]
      split at hl
      · rename_i e0
        cases hl
        rw [if_pos e0]
        exact ⟨h3, fun i hi => hsub i (List.mem_append.2 (.inl hi))⟩
      · rename_i e0
        rw [if_neg e0]
        exact old hl
  · rcases upIds_get (up := e.up) (hp := s.hp) ho with ⟨q1, q2⟩ | q1
    · exact ⟨hsub _ (List.mem_append.2 (.inr q1)), fun i hi => hsub _ (List.mem_append.2 (.inr (q2 i hi)))⟩
    · obtain ⟨q2, q3⟩ := S.heap o' obj q1
      exact ⟨hused _ q2, fun i hi => hused _ (q3 i hi)⟩
theorem Sat.fr (S : Sat C m s a w) {d : Nat} (h : d ∉ s.used) : Fr s.hp d := fun o obj ho => ⟨fun e => h (e ▸ (S.heap o obj ho).1), fun hi => h ((S.heap o obj ho).2 d hi)⟩
theorem Sat.operands (S : Sat C m s a w) (x : Operand) : Val w (im C m w s.hp) m (a.eval x) (s.look x) := Val.of_operand S.inv.tab (fun t c h => (S.slots t c h).1) x
theorem avConst_ids (v : Value) : (avConst v).ids = [] := by
  have no : ∀ l : List Value, AV.ids.idsL (l.map fun u => AV.d (.v u)) = [] := fun l => by
    induction l with
    | nil => rfl
    | cons a l ih => simp [AV.ids.idsL, AV.ids, ih]
  unfold avConst
  split
  · split
    · simp [AV.ids, no]
    · rfl
  · rfl
  · rfl
theorem Sat.operand_ids (S : Sat C m s a w) (x : Operand) : ∀ i ∈ (s.look x).ids, i ∈ s.used := by
  cases x with
  | tmp t =>
    show ∀ i ∈ ((s.sl.lookup t).getD .bad).ids, i ∈ s.used
    cases hl : s.sl.lookup t with
    | none => intro i hi; cases hi
    | some c => exact (S.slots t c hl).2
  | const v => intro i hi; rw [show s.look (.const v) = avConst v from rfl, avConst_ids] at hi; cases hi
  | func f => intro i hi; cases hi
  | global g =>
    intro i hi
    have : (s.look (.global g)).ids = [] := by
      show (match tabL.lookup g with | some l => AV.ep (l.map .v) 0 | none => .bad).ids = []
      cases tabL.lookup g <;> rfl
    rw [this] at hi
    cases hi
theorem strip_ids : ∀ (G gs : List Bool) (c : AV), ∀ i ∈ (strip G gs c).ids, i ∈ c.ids
  | [], [], _, _, h => h
  | [], _ :: _, _, _, h => h
  | _ :: _, [], _, _, h => h
  | a :: G, g :: gs, c, i, h => by
    simp only [strip] at h
    split at h
    · exact strip_ids G gs c i h
    · cases h
theorem unw_ids (G : List Bool) (c : AV) : ∀ i ∈ (unw G c).ids, i ∈ c.ids := fun i hi => by
  cases c with
  | gd gs c => exact strip_ids G gs c i hi
  | _ => exact hi
theorem lookup_map (g : List Bool) (l : List (Nat × AV)) (t : Nat) : (l.map fun p => (p.1, unw g p.2)).lookup t = (l.lookup t).map (unw g) := by
  induction l with
  | nil => rfl
  | cons p l ih =>
    obtain ⟨a, x⟩ := p
    rw [List.map_cons, lookup_cons, lookup_cons, ih]
    split <;> rfl
theorem Sat.at (S : Sat C m s a w) {g : List Bool} (hg : allB g = true) : Sat C m (s.at g) a w := by
  refine ⟨S.inv, S.size, S.defers, fun t c hl => ?_, S.heap, S.small, S.pin⟩
  simp only [St.at, lookup_map] at hl
  cases hx : s.sl.lookup t with
  | none => rw [hx] at hl; cases hl
  | some x =>
    rw [hx] at hl
    cases hl
    obtain ⟨q1, q2⟩ := S.slots t x hx
    exact ⟨unw_val hg q1, fun i hi => q2 i (unw_ids g x i hi)⟩
/-- One operation. -/
theorem eff_step (hG : Gok P Γ) (S : Sat C m s a w) {o : Oper} {e : Eff} (he : s.effOf P Γ (o.dst.getD 0) o.op = some e) (hsc : e.sc) (hnew : e.new = true → o.dst.getD 0 ∉ s.used) {K : Act → World → Prop} {Q : Exit → Act → World → Prop}
    (hK : ∀ v w', Post C m w s.hp (o.dst.getD 0) e v w' → K (a.put o.dst v) w') : o.wp P a w K Q := by
  have tells : eff P s.hp.get s.look (o.dst.getD 0) o.op = some e → o.wp P a w K Q := fun he => by
    obtain ⟨v, w', h1, h2⟩ := eff_ok (P := P) (ρ := a.eval) S.inv S.operands he hsc (fun hn => S.fr (hnew hn)) (fun x i hi hn e0 => hnew hn (e0 ▸ S.operand_ids x i hi))
    unfold Oper.wp
    rcases h1 with h1 | ⟨h1, rfl⟩
    · rw [h1]; exact hK v w' h2
    · rw [h1]; exact hK undef w' h2
  unfold St.effOf at he
  split at he
  · rename_i f args ts hop
    split at he
    · rename_i g caps hlook
      have hf := S.operands f
      rw [hlook] at hf
      generalize hv : a.eval f = uf at hf
      cases hf with
      | @fn _ us _ hn hcap =>
      have hvals : ∀ (i : Nat) (u : Value) (c : AV), (args.map a.eval ++ us)[i]? = some u → (args.toList.map s.look ++ caps)[i]? = some c → Val w (im C m w s.hp) m u c := fun i u c h1 h2 => by
        rw [Array.getElem?_append] at h1
        rw [List.getElem?_append] at h2
        simp only [Array.size_map, List.length_map, Array.length_toList] at h1 h2
        split at h1
        · rename_i hi
          rw [if_pos hi] at h2
          rw [Array.getElem?_map] at h1
          rw [List.getElem?_map, Array.getElem?_toList] at h2
          cases hx : args[i]? with
          | none => rw [hx] at h1; cases h1
          | some x => rw [hx] at h1 h2; cases h1; cases h2; exact S.operands x
        · rename_i hi
          rw [if_neg hi] at h2
          exact hcap _ _ _ h1 h2
      obtain ⟨⟨fn, g1, g2, g3⟩, hcalls⟩ := hG g _ _ _ e he hsc C m w s.hp (args.map a.eval ++ us) rfl S.inv (by simp [hn]) hvals (fun hn => S.fr (hnew hn))
      have hrun : (execOp a.eval o).run P w = .ok (.enter g (args.map a.eval ++ us)) w := by
        simp only [execOp, hop, resolve, hv, Deferred.ofValue, invoke, Sem.run_bind, Sem.run_pure, Result.andThen_ok, callFunc, run_program, g1, g2, g3, Bool.false_eq_true, if_false, Array.empty_append]
      unfold Oper.wp
      rw [hrun]
      refine hcalls.mono fun en w' ⟨v, hen, hp⟩ => ?_
      subst hen
      exact hK v w' hp
    · cases he
  · exact tells he
theorem runOp_ok (hG : Gok P Γ) {ops : Array Oper} (S : Sat C m s a w) {o : Oper} {i : Nat} (hi : ops[i]? = some o) {K' : St → Prop} (h : runOp P Γ ops o s K') {K : Act → World → Prop} {Q : Exit → Act → World → Prop}
    (hK : ∀ a' w' s' m', Sat C m' s' a' w' → K' s' → K a' w') : wpOp P ops Q i K a w := by
  unfold wpOp
  rw [hi]
  simp only
  unfold runOp at h
  split at h
  · rename_i hg
    have hw : Region.wanted o (yielded ops a.tmps) = true := by simp [Region.wanted, hg]
    simp only [hw, if_true]
    split at h
    · rename_i e he
      obtain ⟨h1, h2, h3⟩ := h
      refine .inl (eff_step hG S he h2 (fun hn => ?_) fun v w' hp => ?_)
      · simp only [St.okB, Bool.and_eq_true] at h1
        have := h1.1.2
        simp only [hn, Bool.not_true, Bool.false_or, Bool.not_eq_true'] at this
        intro h
        simp [h] at this
      · obtain ⟨m', S'⟩ := S.next h1 hp
        exact hK _ _ _ _ S' h3
    · exact h.elim
  · rename_i j want hg
    split at h
    case h_2 => exact h.elim
    rename_i p d hb hd
    have hy : (allB p.1 = true ∧ yielded ops a.tmps j = some p.2) ∨ (allB p.1 = false ∧ yielded ops a.tmps j = none) := by
      unfold St.guard at hb
      split at hb
      case h_2 => cases hb
      rename_i t ht
      have hv := S.operands (.tmp t)
      have hyl : ∀ u, a.tmps.getD t undef = u → (∀ b, u = .bool b → yielded ops a.tmps j = some b) ∧ (u = undef → yielded ops a.tmps j = none) := fun u hu => by
        unfold yielded
        rw [ht]
        cases hq : a.tmps[t]? with
        | none =>
          simp [hq] at hu
          subst hu
          refine ⟨fun b h => by simp [undef] at h, fun _ => by simp [hq]⟩
        | some x =>
          simp [hq] at hu
          subst hu
          refine ⟨fun b h => by subst h; simp [hq], fun h => by subst h; simp [hq, undef]⟩
      unfold boolOf at hb
      split at hb
      · rename_i b hl
        cases hb
        rw [hl] at hv
        generalize hu : a.eval (.tmp t) = u at hv
        cases hv with
        | d hv =>
        cases hv
        exact .inl ⟨rfl, (hyl _ hu).1 b rfl⟩
      · rename_i gs b hl
        cases hb
        rw [hl] at hv
        generalize hu : a.eval (.tmp t) = u at hv
        cases hv with
        | gd hv hn =>
        cases hg : allB gs with
        | true =>
          have := hv hg
          cases this with
          | d this =>
          cases this
          exact .inl ⟨rfl, (hyl _ hu).1 b rfl⟩
        | false => exact .inr ⟨rfl, (hyl _ hu).2 (hn hg)⟩
      · cases hb
    have hw : Region.wanted o (yielded ops a.tmps) = allB (gOf p want) := by
      rcases hy with ⟨h1, h2⟩ | ⟨h1, h2⟩
      · simp only [Region.wanted, hg, h2, gOf, allB_append, h1, allB, Bool.true_and, Bool.and_true]
        cases p.2 <;> cases want <;> rfl
      · simp only [Region.wanted, hg, h2, gOf, allB_append, h1, Bool.false_and]
        rfl
    have next : ∀ (c : AV) (v : Value) (w' : World) (m' : Nat → Value), d < s.n → subL c.ids s.used = true → Inv C m' w' s.hp → (∀ i, m' i = m i) → (∀ b, im C m w s.hp b → im C m' w' s.hp b ∧ w'.heap[b]? = w.heap[b]?) →
        (allB (gOf p want) = true → Val w' (im C m' w' s.hp) m' v c) → (allB (gOf p want) = false → v = undef) → Sat C m' { s with sl := (d, .gd (gOf p want) c) :: s.sl } (a.put o.dst v) w' := fun c v w' m' h3 h4 I' hm hk hv hn => by
      rw [hd]
      refine ⟨I', by simp [Act.put, S.size], S.defers, fun t c hl => ?_, S.heap, S.small, fun i hi => (hm i).trans (S.pin i hi)⟩
      rw [lookup_cons] at hl
      simp only
      rw [put_getD a d v t (by rw [S.size]; exact h3)]
      split at hl
      · rename_i e0
        cases hl
        rw [if_pos e0]
        exact ⟨.gd hv hn, fun i hi => subL_mem h4 i hi⟩
      · rename_i e0
        rw [if_neg e0]
        obtain ⟨q1, q2⟩ := S.slots t c hl
        exact ⟨q1.mono hk fun i _ => hm i, q2⟩
    split at h
    case h_2 =>
      obtain ⟨h3, hgt, h⟩ := h
      simp only [hw, hgt, Bool.false_eq_true, if_false]
      exact hK _ _ _ m (next .bad undef w m h3 rfl S.inv (fun _ => rfl) (fun _ h => ⟨h, rfl⟩) (fun hf => by rw [hgt] at hf; cases hf) (fun _ => rfl)) h
    rename_i e he
    cases hup : (e.up.isEmpty && !e.new) with
    | false =>
      rw [hup] at h
      obtain ⟨h3, h⟩ := h
      cases hgt : allB (gOf p want) with
      | true =>
        simp only [hw, hgt, if_true]
        rw [if_pos hgt] at h
        obtain ⟨k1, k2, k3⟩ := h
        have he' : (s.at (gOf p want)).effOf P Γ (o.dst.getD 0) o.op = some e := by rw [hd]; exact he
        refine .inl (eff_step hG (S.at hgt) he' k2 (fun hn => ?_) fun v w' hp => ?_)
        · simp only [St.okB, Bool.and_eq_true] at k1
          have := k1.1.2
          simp only [hn, Bool.not_true, Bool.false_or, Bool.not_eq_true'] at this
          intro h
          have h : o.dst.getD 0 ∈ s.used := h
          simp [h] at this
        · obtain ⟨m', S'⟩ := S.next k1 hp
          exact hK _ _ _ _ S' k3
      | false =>
        simp only [hw, hgt, Bool.false_eq_true, if_false]
        rw [if_neg (by rw [hgt]; decide)] at h
        exact hK _ _ _ m (next .bad undef w m h3 rfl S.inv (fun _ => rfl) (fun _ h => ⟨h, rfl⟩) (fun hf => by rw [hgt] at hf; cases hf) (fun _ => rfl)) h
    | true =>
    rw [hup] at h
    obtain ⟨h3, h4, h5, h6⟩ := h
    simp only [Bool.and_eq_true, List.isEmpty_iff, Bool.not_eq_true'] at hup
    obtain ⟨h1, h2⟩ := hup
    cases hgt : allB (gOf p want) with
    | true =>
      simp only [hw, hgt, if_true]
      have he' : (s.at (gOf p want)).effOf P Γ (o.dst.getD 0) o.op = some e := by rw [hd]; exact he
      refine .inl (eff_step hG (S.at hgt) he' (h5 hgt) (fun hn => by rw [h2] at hn; cases hn) fun v w' hp => ?_)
      obtain ⟨m', q1, q2, q3, q4⟩ := hp
      rw [h1] at q2 q3 q4
      exact hK _ _ _ m' (next e.val v w' m' h3 h4 q2 (fun i => q1 i fun hn => by rw [h2] at hn; cases hn) q4 (fun _ => q3) (fun hf => by rw [hgt] at hf; cases hf)) h6
    | false =>
      simp only [hw, hgt, Bool.false_eq_true, if_false]
      exact hK _ _ _ m (next e.val undef w m h3 h4 S.inv (fun _ => rfl) (fun _ h => ⟨h, rfl⟩) (fun hf => by rw [hgt] at hf; cases hf) (fun _ => rfl)) h6
/-- A region in the text's order. -/
theorem runOps_ok (hG : Gok P Γ) {ops : Array Oper} {Q : Exit → Act → World → Prop} {K : St → Prop} (hQ : ∀ a w s m, Sat C m s a w → K s → Q .normal a w) :
    ∀ (l : List Nat) (os : List Oper) (s : St) (m : Nat → Value) (a : Act) (w : World), os.length = l.length → (∀ (k i : Nat) (o : Oper), l[k]? = some i → os[k]? = some o → ops[i]? = some o) → Sat C m s a w → runOps P Γ ops os s K → wpOps P ops Q l a w
  | [], [], s, m, a, w, _, _, S, h => hQ a w s m S h
  | i :: l, o :: os, s, m, a, w, hl, ho, S, h => by
    rw [wpOps_cons]
    refine runOp_ok hG S (ho 0 i o rfl rfl) h fun a' w' s' m' S' h' => ?_
    exact runOps_ok hG hQ l os s' m' a' w' (by simpa using hl) (fun k i o e1 e2 => ho (k + 1) i o (by simpa using e1) (by simpa using e2)) S' h'
  | [], _ :: _, _, _, _, _, hl, _, _, _ => by simp at hl
  | _ :: _, [], _, _, _, _, hl, _, _, _ => by simp at hl
end
end Go.Proofs.Ytlhhibhcoefolaa.Eng
