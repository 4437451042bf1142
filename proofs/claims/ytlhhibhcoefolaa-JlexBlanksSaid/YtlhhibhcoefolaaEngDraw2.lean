/- Regions that draw their order, on the small machine. -/
import Derived.Test.YtlhhibhcoefolaaEngDraw
namespace Go.Proofs.Ytlhhibhcoefolaa.Eng
open Go
set_option linter.unusedVariables false
set_option linter.unusedSimpArgs false
structure Info where
  r : List Nat
  w : List Nat
  v : List Nat
def keys (hp : Hp) : List Nat := hp.map (·.1)
def Eff.none? (e : Eff) : Bool := e.up.isEmpty && !e.new
def opF (P : Program) (Γ : Gam) (ops : Array Oper) (o : Oper) (s : St) : Option (Prop × Info × St) :=
  match o.guard with
  | none => match s.effOf P Γ (o.dst.getD 0) o.op with
    | some e => if s.okB o e = true then some (e.sc, ⟨opIds s.look o.op, keys e.up ++ (if e.new then [o.dst.getD 0] else []), e.val.ids ++ upIds e.up⟩, s.upd o e) else none
    | none => none
  | some (j, want) => match s.guard ops j, o.dst with
    | some b, some d => match (s.at (gOf b want)).effOf P Γ d o.op with
      | some e => if e.none? = true ∧ d < s.n ∧ subL e.val.ids s.used = true then some (allB (gOf b want) = true → e.sc, ⟨opIds (s.at (gOf b want)).look o.op, [], e.val.ids⟩, { s with sl := (d, .gd (gOf b want) e.val) :: s.sl })
        else if e.none? = false ∧ allB (gOf b want) = true ∧ s.okB o e = true then some (e.sc, ⟨opIds (s.at (gOf b want)).look o.op, keys e.up ++ (if e.new then [o.dst.getD 0] else []), e.val.ids ++ upIds e.up⟩, s.upd o e)
        else if e.none? = false ∧ allB (gOf b want) = false ∧ d < s.n then some (True, ⟨opIds (s.at (gOf b want)).look o.op, [], []⟩, { s with sl := (d, .gd (gOf b want) .bad) :: s.sl }) else none
      | none => if allB (gOf b want) = false ∧ d < s.n then some (True, ⟨opIds (s.at (gOf b want)).look o.op, [], []⟩, { s with sl := (d, .gd (gOf b want) .bad) :: s.sl }) else none
    | _, _ => none
section
variable {P : Program} {Γ : Gam} {ops : Array Oper} {o : Oper} {s t : St}
theorem opF_runOp {p : Prop} {i : Info} {s1 : St} (h : opF P Γ ops o s = some (p, i, s1)) (hp : p) {K : St → Prop} (hK : K s1) : runOp P Γ ops o s K := by
  unfold opF at h
  unfold runOp
  split at h
  · rename_i hg
    split at h
    · rename_i e he
      split at h
      · rename_i hok
        cases h
        simp only [hg, he]
        exact ⟨hok, hp, hK⟩
      · cases h
    · cases h
  · rename_i j want hg
    split at h
    · rename_i b d hb hd
      split at h
      · rename_i e he
        split at h
        · rename_i hc
          cases h
          obtain ⟨c1, c2, c3⟩ := hc
          simp only [hg, hb, hd, he]
          rw [show (e.up.isEmpty && !e.new) = true from c1]
          exact ⟨c2, c3, hp, hK⟩
        · split at h
          · rename_i hc
            cases h
            obtain ⟨c1, c2, c3⟩ := hc
            simp only [hg, hb, hd, he]
            rw [show (e.up.isEmpty && !e.new) = false from c1]
            refine ⟨?_, by rw [if_pos c2]; exact ⟨c3, hp, hK⟩⟩
            simp only [St.okB, Bool.and_eq_true, hd, decide_eq_true_eq] at c3
            exact c3.1.1
          · split at h
            · rename_i hc
              cases h
              obtain ⟨c1, c2, c3⟩ := hc
              simp only [hg, hb, hd, he]
              rw [show (e.up.isEmpty && !e.new) = false from c1]
              exact ⟨c3, by rw [if_neg (by rw [c2]; decide)]; exact hK⟩
            · cases h
      · rename_i he
        split at h
        · rename_i hc
          cases h
          simp only [hg, hb, hd, he]
          exact ⟨hc.2, hc.1, hK⟩
        · cases h
    · cases h
theorem look_eqv (h : s.eqv t) : s.look = t.look := by
  funext x
  cases x with
  | tmp i => show (s.sl.lookup i).getD .bad = (t.sl.lookup i).getD .bad; rw [h.2.2.1]
  | _ => rfl
theorem effOf_same (h1 : s.look = t.look) (h2 : s.hp.get = t.hp.get) (d : Nat) (op : Op) : s.effOf P Γ d op = t.effOf P Γ d op := by
  unfold St.effOf
  rw [h1, h2]
theorem contains_eqv (h : s.eqv t) (d : Nat) : s.used.contains d = t.used.contains d := by
  rw [Bool.eq_iff_iff]
  simp [h.2.1]
theorem subL_congr {l u u' : List Nat} (h : ∀ i ∈ l, i ∈ u → i ∈ u') (hs : subL l u = true) : subL l u' = true :=
  List.all_eq_true.2 fun i hi => by simpa using h i hi (subL_mem hs i hi)
theorem guard_same {j : Nat} (h : ∀ d, (ops[j]?).bind (·.dst) = some d → s.sl.lookup d = t.sl.lookup d) : s.guard ops j = t.guard ops j := by
  unfold St.guard
  cases hd : (ops[j]?).bind (·.dst) with
  | none => rfl
  | some d => show boolOf ((s.sl.lookup d).getD .bad) = boolOf ((t.sl.lookup d).getD .bad); rw [h d hd]
theorem at_eqv (h : s.eqv t) (g : List Bool) : (s.at g).eqv (t.at g) := ⟨h.1, h.2.1, fun i => by simp only [St.at, lookup_map, h.2.2.1], h.2.2.2⟩
theorem upd_eqv (h : s.eqv t) (o : Oper) (e : Eff) : (s.upd o e).eqv (t.upd o e) := by
  refine ⟨h.1, fun i => ?_, fun i => ?_, fun i => ?_⟩
  · simp only [St.upd]; split <;> simp [h.2.1]
  · simp only [St.upd]
    cases o.dst with
    | none => exact h.2.2.1 i
    | some d => simp only [lookup_cons, h.2.2.1]
  · simp only [St.upd]
    generalize e.up = up
    induction up with
    | nil => exact h.2.2.2 i
    | cons p up ih => obtain ⟨a, x⟩ := p; simp only [List.cons_append, Hp.get_cons, ih]
theorem okB_eqv (h : s.eqv t) (o : Oper) (e : Eff) (hok : s.okB o e = true) : t.okB o e = true := by
  simp only [St.okB, Bool.and_eq_true] at hok ⊢
  obtain ⟨⟨k1, k2⟩, k3⟩ := hok
  refine ⟨⟨by rw [← h.1]; exact k1, by rw [← contains_eqv h]; exact k2⟩, subL_congr (fun i _ hi => ((upd_eqv h o e).2.1 i).1 hi) k3⟩
/-- States that know the same come to states that know the same. -/
theorem opF_eqv (h : s.eqv t) {p : Prop} {i : Info} {s1 : St} (hs : opF P Γ ops o s = some (p, i, s1)) : ∃ t1, opF P Γ ops o t = some (p, i, t1) ∧ s1.eqv t1 := by
  unfold opF at hs ⊢
  split at hs
  · rename_i hg
    have he' := effOf_same (P := P) (Γ := Γ) (look_eqv h) (funext h.2.2.2) (o.dst.getD 0) o.op
    rw [he'] at hs
    split at hs
    · rename_i e he
      split at hs
      · rename_i hok
        cases hs
        simp only [hg, he, okB_eqv h o e hok, if_true, look_eqv h]
        exact ⟨_, rfl, upd_eqv h o e⟩
      · cases hs
    · cases hs
  · rename_i j want hg
    have hgd := guard_same (s := s) (t := t) (ops := ops) (j := j) fun d _ => h.2.2.1 d
    rw [hgd] at hs
    split at hs
    · rename_i b d hb hd
      have he' := effOf_same (P := P) (Γ := Γ) (look_eqv (at_eqv h (gOf b want))) (funext h.2.2.2) d o.op
      rw [he', look_eqv (at_eqv h _)] at hs
      split at hs
      · rename_i e he
        split at hs
        · rename_i hc
          cases hs
          have hc' : e.none? = true ∧ d < t.n ∧ subL e.val.ids t.used = true := ⟨hc.1, h.1 ▸ hc.2.1, subL_congr (fun i _ hi => (h.2.1 i).1 hi) hc.2.2⟩
          simp only [hg, hb, hd, he, if_pos hc']
          exact ⟨_, rfl, ⟨h.1, h.2.1, fun i => by simp only [lookup_cons, h.2.2.1], h.2.2.2⟩⟩
        · split at hs
          · rename_i hc
            cases hs
            have nA : ¬ (e.none? = true ∧ d < t.n ∧ subL e.val.ids t.used = true) := fun q => by rw [hc.1] at q; cases q.1
            simp only [hg, hb, hd, he, if_neg nA, if_pos (show e.none? = false ∧ allB (gOf b want) = true ∧ t.okB o e = true from ⟨hc.1, hc.2.1, okB_eqv h o e hc.2.2⟩)]
            exact ⟨_, rfl, upd_eqv h o e⟩
          · split at hs
            · rename_i hc
              cases hs
              have nA : ¬ (e.none? = true ∧ d < t.n ∧ subL e.val.ids t.used = true) := fun q => by rw [hc.1] at q; cases q.1
              have nB : ¬ (e.none? = false ∧ allB (gOf b want) = true ∧ t.okB o e = true) := fun q => by rw [hc.2.1] at q; cases q.2.1
              simp only [hg, hb, hd, he, if_neg nA, if_neg nB, if_pos (show e.none? = false ∧ allB (gOf b want) = false ∧ d < t.n from ⟨hc.1, hc.2.1, h.1 ▸ hc.2.2⟩)]
              exact ⟨_, rfl, ⟨h.1, h.2.1, fun i => by simp only [lookup_cons, h.2.2.1], h.2.2.2⟩⟩
            · cases hs
      · rename_i he
        split at hs
        · rename_i hc
          cases hs
          simp only [hg, hb, hd, he, if_pos (show allB (gOf b want) = false ∧ d < t.n from ⟨hc.1, h.1 ▸ hc.2⟩)]
          exact ⟨_, rfl, ⟨h.1, h.2.1, fun i => by simp only [lookup_cons, h.2.2.1], h.2.2.2⟩⟩
        · cases hs
    · cases hs
/-- States that tell the operation the same. -/
theorem effOf_loc (hL : Gloc Γ) (op : Op) (d : Nat) (h1 : ∀ x ∈ op.operands, s.look x = t.look x) (h2 : Agree (opIds s.look op) s.hp.get t.hp.get) : s.effOf P Γ d op = t.effOf P Γ d op ∧ opIds s.look op = opIds t.look op := by
  have hids : opIds s.look op = opIds t.look op := by
    unfold opIds
    congr 1
    exact List.map_congr_left fun x hx => h1 x (by simpa using hx)
  refine ⟨?_, hids⟩
  have heff : eff P s.hp.get s.look d op = eff P t.hp.get t.look d op := by
    rw [eff_loc h2]
    have pairs : ∀ parts : Array (Nat × Operand), (∀ p ∈ parts, p.2 ∈ op.operands) → parts.toList.map (fun p => (p.1, s.look p.2)) = parts.toList.map fun p => (p.1, t.look p.2) := fun parts hp =>
      List.map_congr_left fun p hm => by rw [h1 p.2 (hp p (by simpa using hm))]
    have args : ∀ args : Array Operand, (∀ x ∈ args, x ∈ op.operands) → args.toList.map s.look = args.toList.map t.look := fun args hp =>
      List.map_congr_left fun x hm => h1 x (hp x (by simpa using hm))
    have opt : ∀ x : Option Operand, (∀ y, x = some y → y ∈ op.operands) → x.map s.look = x.map t.look := fun x hx => by cases x with | none => rfl | some y => simp [h1 y (hx y rfl)]
    cases op <;> simp only [eff]
    case move x => rw [h1 x (by simp [Op.operands])]
    case assign x => rw [h1 x (by simp [Op.operands])]
    case pick a b c => rw [h1 a (by simp [Op.operands]), h1 b (by simp [Op.operands]), h1 c (by simp [Op.operands])]
    case box e x => rw [h1 x (by simp [Op.operands])]
    case build t parts => rw [pairs parts (fun p hp => by simp only [Op.operands]; simp; exact ⟨p.1, by simpa using hp⟩)]
    case buildSlice t n parts => rw [pairs parts (fun p hp => by simp only [Op.operands]; simp; exact ⟨p.1, by simpa using hp⟩)]
    case load t x => rw [h1 x (by simp [Op.operands])]
    case store t x y => rw [h1 x (by simp [Op.operands]), h1 y (by simp [Op.operands])]
    case nilCheck x => rw [h1 x (by simp [Op.operands])]
    case binOp op t x y yt => rw [h1 x (by simp [Op.operands]), h1 y (by simp [Op.operands])]
    case unOp op t x => rw [h1 x (by simp [Op.operands])]
    case convert s t x => rw [h1 x (by simp [Op.operands])]
    case makeFunc fn first caps =>
      cases fn <;> simp only
      rw [args caps (fun x hx => by simp only [Op.operands]; simp [hx])]
    case makeSlice t x y => rw [h1 x (by simp [Op.operands]), h1 y (by simp [Op.operands])]
    case slice ty x lo hi mx =>
      cases mx with
      | some _ => rfl
      | none =>
        simp only
        rw [h1 x (by simp [Op.operands]), opt lo (fun y hy => by subst hy; simp [Op.operands]), opt hi (fun y hy => by subst hy; simp [Op.operands])]
    case fieldAddr s x f => rw [h1 x (by simp [Op.operands])]
    case field s x f => rw [h1 x (by simp [Op.operands])]
    case indexAddr t x i => rw [h1 x (by simp [Op.operands]), h1 i (by simp [Op.operands])]
    case index t x i => rw [h1 x (by simp [Op.operands]), h1 i (by simp [Op.operands])]
    case extract x i => rw [h1 x (by simp [Op.operands])]
    case call c =>
      obtain ⟨cal, as, ts⟩ := c
      cases cal with
      | builtin b => simp only; rw [args as (fun x hx => by simp [Op.operands, Call.operands, hx])]
      | _ => rfl
  cases op <;> try exact heff
  case call c =>
    obtain ⟨cal, as, ts⟩ := c
    cases cal with
    | value f =>
      have hf := h1 f (by simp [Op.operands, Call.operands])
      have ha : as.toList.map s.look = as.toList.map t.look := List.map_congr_left fun x hm => h1 x (by simp only [Op.operands, Call.operands]; simp; exact .inr (by simpa using hm))
      simp only [St.effOf]
      rw [← hf, ← ha]
      cases hl : s.look f with
      | fn g caps =>
        simp only
        refine hL g d _ _ _ fun i hi => h2 i ?_
        simp only [opIds, Op.operands, Call.operands]
        have app : ∀ (l k : List AV), AV.ids.idsL (l ++ k) = AV.ids.idsL l ++ AV.ids.idsL k := fun l k => by
          induction l with
          | nil => rfl
          | cons a l ih => simp [AV.ids.idsL, ih]
        rw [app] at hi
        simp only [Array.toList_append, List.map_append, app, List.mem_append] at hi ⊢
        rcases hi with hi | hi
        · exact .inr hi
        · refine .inl ?_
          simp only [List.map_cons, List.map_nil, hl, AV.ids.idsL, AV.ids, List.append_nil]
          exact hi
      | _ => rfl
    | _ => exact heff
end
end Go.Proofs.Ytlhhibhcoefolaa.Eng
