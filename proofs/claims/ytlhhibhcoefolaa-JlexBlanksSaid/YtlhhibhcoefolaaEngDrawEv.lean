/- Regions that draw, as simp runs them. -/
import Derived.Test.YtlhhibhcoefolaaEngLoop
namespace Go.Proofs.Ytlhhibhcoefolaa.Eng
open Go
set_option linter.unusedVariables false
set_option linter.unusedSimpArgs false
def opL : Op → List Operand
  | .alloc _ => []
  | .move x | .assign x | .box _ x | .load _ x | .nilCheck x | .unOp _ _ x | .convert _ _ x | .fieldAddr _ x _ | .field _ x _ | .extract x _ | .makeInterface _ x => [x]
  | .pick c a b => [c, a, b]
  | .store _ a v | .binOp _ _ a v _ | .makeSlice _ a v | .indexAddr _ a v | .index _ a v => [a, v]
  | .build _ ps | .buildSlice _ _ ps => ps.toList.map (·.2)
  | .slice _ x l h m => x :: (l.toList ++ h.toList ++ m.toList)
  | o => o.operands.toList
theorem opL_eq (o : Op) : o.operands.toList = opL o := by cases o <;> simp [opL, Op.operands]
theorem opIds_L (look : Operand → AV) (o : Op) : opIds look o = AV.ids.idsL ((opL o).map look) := by unfold opIds; rw [opL_eq]
theorem opL_builtin (b : Builtin) (l : List Operand) (ts : Array Nat) : opL (.call { callee := .builtin b, args := l.toArray, argTypes := ts }) = l := by
  simp [opL, Op.operands, Call.operands]
theorem opL_value (f : Operand) (l : List Operand) (ts : Array Nat) : opL (.call { callee := .value f, args := l.toArray, argTypes := ts }) = f :: l := by
  simp [opL, Op.operands, Call.operands]
theorem evO : (∀ t, opL (.alloc t) = []) ∧ (∀ x, opL (.move x) = [x]) ∧ (∀ x, opL (.assign x) = [x]) ∧ (∀ t x, opL (.box t x) = [x]) ∧ (∀ t x, opL (.load t x) = [x]) ∧ (∀ x, opL (.nilCheck x) = [x]) ∧ (∀ o t x, opL (.unOp o t x) = [x]) ∧ (∀ s t x, opL (.convert s t x) = [x]) ∧
    (∀ t x i, opL (.fieldAddr t x i) = [x]) ∧ (∀ t x i, opL (.field t x i) = [x]) ∧ (∀ x i, opL (.extract x i) = [x]) ∧ (∀ t x, opL (.makeInterface t x) = [x]) ∧ (∀ c a b, opL (.pick c a b) = [c, a, b]) ∧ (∀ t a v, opL (.store t a v) = [a, v]) ∧ (∀ o t a v t2, opL (.binOp o t a v t2) = [a, v]) ∧
    (∀ t a v, opL (.makeSlice t a v) = [a, v]) ∧ (∀ t a v, opL (.indexAddr t a v) = [a, v]) ∧ (∀ t a v, opL (.index t a v) = [a, v]) ∧ (∀ t (ps : List (Nat × Operand)), opL (.build t ps.toArray) = ps.map (·.2)) ∧ (∀ t n (ps : List (Nat × Operand)), opL (.buildSlice t n ps.toArray) = ps.map (·.2)) ∧
    (∀ t x l h, opL (.slice t x l h none) = x :: (l.toList ++ h.toList ++ [])) ∧ (∀ b (l : List Operand) (ts : Array Nat), opL (.call { callee := .builtin b, args := l.toArray, argTypes := ts }) = l) ∧ (∀ f (l : List Operand) (ts : Array Nat), opL (.call { callee := .value f, args := l.toArray, argTypes := ts }) = f :: l) :=
  ⟨fun _ => rfl, fun _ => rfl, fun _ => rfl, fun _ _ => rfl, fun _ _ => rfl, fun _ => rfl, fun _ _ _ => rfl, fun _ _ _ => rfl, fun _ _ _ => rfl, fun _ _ _ => rfl, fun _ _ => rfl, fun _ _ => rfl, fun _ _ _ => rfl, fun _ _ _ => rfl, fun _ _ _ _ _ => rfl, fun _ _ _ => rfl, fun _ _ _ => rfl, fun _ _ _ => rfl, fun _ _ => rfl, fun _ _ _ => rfl, fun _ _ _ _ => rfl, opL_builtin, opL_value⟩
def goT (n : Nat) (u : List Nat) (sl : List (Nat × AV)) (hp : Hp) (dst : Option Nat) (l : List Nat) (e : Option Eff) (K : Info → St → Prop) : Prop :=
  match e, dst with
  | some ⟨sc, val, up, false⟩, some d => d < n ∧ subL (val.ids ++ upIds up) u = true ∧ sc ∧ K ⟨l, keys up, val.ids ++ upIds up⟩ ⟨n, u, (d, val) :: sl, up ++ hp⟩
  | some ⟨sc, val, up, true⟩, some d => d < n ∧ u.contains d = false ∧ subL (val.ids ++ upIds up) (d :: u) = true ∧ sc ∧ K ⟨l, keys up ++ [d], val.ids ++ upIds up⟩ ⟨n, d :: u, (d, val) :: sl, up ++ hp⟩
  | some ⟨sc, val, up, false⟩, none => subL (val.ids ++ upIds up) u = true ∧ sc ∧ K ⟨l, keys up, val.ids ++ upIds up⟩ ⟨n, u, sl, up ++ hp⟩
  | _, _ => False
def goTG (n : Nat) (u : List Nat) (sl : List (Nat × AV)) (hp : Hp) (d : Nat) (l : List Nat) (g : List Bool) (e : Option Eff) (K : Info → St → Prop) : Prop :=
  match e with
  | some ⟨sc, val, [], false⟩ => d < n ∧ subL val.ids u = true ∧ (allB g = true → sc) ∧ K ⟨l, [], val.ids⟩ ⟨n, u, (d, .gd g val) :: sl, hp⟩
  | some e => if allB g = true then goT n u sl hp (some d) l (some e) K else d < n ∧ K ⟨l, [], []⟩ ⟨n, u, (d, .gd g .bad) :: sl, hp⟩
  | none => allB g = false ∧ d < n ∧ K ⟨l, [], []⟩ ⟨n, u, (d, .gd g .bad) :: sl, hp⟩
def goTH (n : Nat) (u : List Nat) (sl : List (Nat × AV)) (hp : Hp) (d : Nat) (b : Option (List Bool × Bool)) (want : Bool) (l : List Bool → List Nat) (f : List Bool → Option Eff) (K : Info → St → Prop) : Prop :=
  match b with
  | some b => goTG n u sl hp d (l (gOf b want)) (gOf b want) (f (gOf b want)) K
  | none => False
section
variable (P : Program) (Γ : Gam) (n : Nat) (u : List Nat) (sl : List (Nat × AV)) (hp : Hp) (ops : Array Oper) (K : Info → St → Prop) (acc : List Info)
theorem goT_val (d : Nat) (l : List Nat) (sc : Prop) (val : AV) (up : Hp) : goT n u sl hp (some d) l (some ⟨sc, val, up, false⟩) K = (d < n ∧ subL (val.ids ++ upIds up) u = true ∧ sc ∧ K ⟨l, keys up, val.ids ++ upIds up⟩ ⟨n, u, (d, val) :: sl, up ++ hp⟩) := rfl
theorem goT_new (d : Nat) (l : List Nat) (sc : Prop) (val : AV) (up : Hp) : goT n u sl hp (some d) l (some ⟨sc, val, up, true⟩) K = (d < n ∧ u.contains d = false ∧ subL (val.ids ++ upIds up) (d :: u) = true ∧ sc ∧ K ⟨l, keys up ++ [d], val.ids ++ upIds up⟩ ⟨n, d :: u, (d, val) :: sl, up ++ hp⟩) := rfl
theorem goT_store (l : List Nat) (sc : Prop) (val : AV) (up : Hp) : goT n u sl hp none l (some ⟨sc, val, up, false⟩) K = (subL (val.ids ++ upIds up) u = true ∧ sc ∧ K ⟨l, keys up, val.ids ++ upIds up⟩ ⟨n, u, sl, up ++ hp⟩) := rfl
theorem goTG_val (d : Nat) (l : List Nat) (g : List Bool) (sc : Prop) (val : AV) : goTG n u sl hp d l g (some ⟨sc, val, [], false⟩) K = (d < n ∧ subL val.ids u = true ∧ (allB g = true → sc) ∧ K ⟨l, [], val.ids⟩ ⟨n, u, (d, .gd g val) :: sl, hp⟩) := by simp only [goTG]
theorem goTG_new (d : Nat) (l : List Nat) (g : List Bool) (sc : Prop) (val : AV) (up : Hp) : goTG n u sl hp d l g (some ⟨sc, val, up, true⟩) K = if allB g = true then goT n u sl hp (some d) l (some ⟨sc, val, up, true⟩) K else d < n ∧ K ⟨l, [], []⟩ ⟨n, u, (d, .gd g .bad) :: sl, hp⟩ := by cases up <;> rfl
theorem goTG_up (d : Nat) (l : List Nat) (g : List Bool) (sc : Prop) (val : AV) (q : Nat × Option AObj) (up : Hp) : goTG n u sl hp d l g (some ⟨sc, val, q :: up, false⟩) K = if allB g = true then goT n u sl hp (some d) l (some ⟨sc, val, q :: up, false⟩) K else d < n ∧ K ⟨l, [], []⟩ ⟨n, u, (d, .gd g .bad) :: sl, hp⟩ := rfl
theorem goTG_none (d : Nat) (l : List Nat) (g : List Bool) : goTG n u sl hp d l g none K = (allB g = false ∧ d < n ∧ K ⟨l, [], []⟩ ⟨n, u, (d, .gd g .bad) :: sl, hp⟩) := rfl
theorem goTH_true (d : Nat) (gs : List Bool) (b : Bool) (l : List Bool → List Nat) (f : List Bool → Option Eff) : goTH n u sl hp d (some (gs, b)) true l f K = goTG n u sl hp d (l (gs ++ [b])) (gs ++ [b]) (f (gs ++ [b])) K := rfl
theorem goTH_false (d : Nat) (gs : List Bool) (b : Bool) (l : List Bool → List Nat) (f : List Bool → Option Eff) : goTH n u sl hp d (some (gs, b)) false l f K = goTG n u sl hp d (l (gs ++ [!b])) (gs ++ [!b]) (f (gs ++ [!b])) K := rfl
theorem runT_nil (K : List Info → St → Prop) : runT P Γ ops [] acc ⟨n, u, sl, hp⟩ K = K acc ⟨n, u, sl, hp⟩ := rfl
theorem runT_none (dst : Option Nat) (op : Op) (ty : Nat) (pos : String) (aft : Array Edge) (os : List Oper) (K : List Info → St → Prop) : runT P Γ ops (⟨dst, op, ty, pos, aft, none⟩ :: os) acc ⟨n, u, sl, hp⟩ K =
    goT n u sl hp dst (AV.ids.idsL ((opL op).map (lk sl))) ((St.mk n u sl hp).effOf P Γ (dst.getD 0) op) (fun i s' => runT P Γ ops os (acc ++ [i]) s' K) := by
  simp only [runT, opF, goT, look_mk, opIds_L]
  cases (St.mk n u sl hp).effOf P Γ (dst.getD 0) op with
  | none => cases dst <;> rfl
  | some e =>
    obtain ⟨sc, val, up, new⟩ := e
    cases dst with
    | none =>
      cases new with
      | false =>
        by_cases h : subL (val.ids ++ upIds up) u = true <;> simp [St.okB, St.upd, h]
      | true => simp [St.okB]
    | some d =>
      cases new with
      | false =>
        by_cases h0 : d < n <;> by_cases h : subL (val.ids ++ upIds up) u = true <;> simp [St.okB, St.upd, h, h0]
      | true =>
        by_cases h0 : d < n <;> by_cases h : subL (val.ids ++ upIds up) (d :: u) = true <;> cases h1 : u.contains d <;> simp only [St.okB, St.upd, h0, h, h1, decide_true, decide_false, Bool.not_true, Bool.not_false, Bool.false_or, Bool.or_false, Bool.true_and, Bool.and_true, Bool.and_false, Bool.false_and, Bool.true_or, Option.getD_some, if_true, true_and, false_and, and_false, Bool.false_eq_true, if_false, reduceCtorEq]
theorem runT_guard (d : Nat) (op : Op) (ty : Nat) (pos : String) (aft : Array Edge) (j : Nat) (want : Bool) (l os : List Oper) (K : List Info → St → Prop) : runT P Γ l.toArray (⟨some d, op, ty, pos, aft, some (j, want)⟩ :: os) acc ⟨n, u, sl, hp⟩ K =
    goTH n u sl hp d (gdV sl (gdL l j)) want (fun g => AV.ids.idsL ((opL op).map (lk (sl.map fun p => (p.1, unw g p.2))))) (fun g => (St.mk n u (sl.map fun p => (p.1, unw g p.2)) hp).effOf P Γ d op) (fun i s' => runT P Γ l.toArray os (acc ++ [i]) s' K) := by
  have e : (St.mk n u sl hp).guard l.toArray j = gdV sl (gdL l j) := by
    rw [gdL_eq]
    unfold St.guard gdV
    rw [List.getElem?_toArray, look_mk]
    cases (l[j]?).bind (·.dst) <;> rfl
  simp only [runT, opF, e, goTH, goTG]
  cases gdV sl (gdL l j) with
  | none => rfl
  | some b =>
    simp only [opIds_L, at_mk, look_mk]
    cases (St.mk n u (sl.map fun p => (p.1, unw (gOf b want) p.2)) hp).effOf P Γ d op with
    | none =>
      by_cases h3 : d < n <;> by_cases h5 : allB (gOf b want) = true <;> simp [h3, h5]
    | some ef =>
      obtain ⟨sc, val, up, new⟩ := ef
      simp only [Eff.none?]
      cases up with
      | nil =>
        cases new with
        | false =>
          by_cases h3 : d < n <;> by_cases h4 : subL val.ids u = true <;> simp [h3, h4]
        | true =>
          by_cases h5 : allB (gOf b want) = true <;> by_cases h3 : d < n <;> by_cases h : subL (val.ids ++ upIds []) (d :: u) = true <;> cases h1 : u.contains d <;> simp [h5, goT, St.okB, St.upd, h3, h, h1, keys] <;> simp_all
      | cons q up =>
        cases new with
        | false =>
          by_cases h5 : allB (gOf b want) = true <;> by_cases h3 : d < n <;> by_cases h : subL (val.ids ++ upIds (q :: up)) u = true <;> simp [h5, goT, St.okB, St.upd, h3, h, keys] <;> simp_all
        | true =>
          by_cases h5 : allB (gOf b want) = true <;> by_cases h3 : d < n <;> by_cases h : subL (val.ids ++ upIds (q :: up)) (d :: u) = true <;> cases h1 : u.contains d <;> simp [h5, goT, St.okB, St.upd, h3, h, h1, keys] <;> simp_all
theorem DRun_mk (l : List Oper) (K : St → Prop) : DRun P Γ l.toArray ⟨n, u, sl, hp⟩ K = runT P Γ l.toArray l [] ⟨n, u, sl, hp⟩ fun is s' => pairsOk l.toArray is = true ∧ K s' := rfl
end
end Go.Proofs.Ytlhhibhcoefolaa.Eng
