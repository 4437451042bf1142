/- Rules by which Lean runs the small machine. -/
import Derived.Test.YtlhhibhcoefolaaEngDraw3
namespace Go.Proofs.Ytlhhibhcoefolaa.Eng
open Go
def lk (sl : List (Nat × AV)) : Operand → AV
  | .tmp t => (sl.lookup t).getD .bad
  | .const v => avConst v
  | .func f => .fn f []
  | .global g => match tabL.lookup g with
    | some l => .ep (l.map .v) 0
    | none => .bad
theorem look_mk (n : Nat) (u : List Nat) (sl : List (Nat × AV)) (hp : Hp) : (St.mk n u sl hp).look = lk sl := by funext x; cases x <;> rfl
theorem lk_cons (d t : Nat) (c : AV) (sl : List (Nat × AV)) : lk ((d, c) :: sl) (.tmp t) = if t = d then c else lk sl (.tmp t) := by
  simp only [lk, lookup_cons]
  split <;> rfl
theorem lk_global {g : Nat} {l : List Value} (h : tabL.lookup g = some l) (sl : List (Nat × AV)) : lk sl (.global g) = .ep (l.map .v) 0 := by
  unfold lk; simp only [h]
theorem lk_nil (t : Nat) : lk [] (.tmp t) = .bad := rfl
theorem lk_func (sl : List (Nat × AV)) (f : Nat) : lk sl (.func f) = .fn f [] := rfl
theorem lk_int (sl : List (Nat × AV)) (k : IntKind) (n : Int) : lk sl (.const (.int k n)) = .d (.v (.int k n)) := rfl
theorem lk_bool (sl : List (Nat × AV)) (b : Bool) : lk sl (.const (.bool b)) = .d (.v (.bool b)) := rfl
theorem lk_string (sl : List (Nat × AV)) (s : ByteArray) : lk sl (.const (.string s)) = .d (.v (.string s)) := rfl
theorem lk_slice (sl : List (Nat × AV)) (a : Option Addr) (n c : Nat) : lk sl (.const (.slice a n c)) = .d (.v (.slice a n c)) := rfl
theorem lk_agg (sl : List (Nat × AV)) (l : List Value) : lk sl (.const (.agg l.toArray)) = if l.all Value.oneCell' = true then .agg (l.map fun u => .d (.v u)) else .bad := rfl
def goE (n : Nat) (u : List Nat) (sl : List (Nat × AV)) (hp : Hp) (dst : Option Nat) (e : Option Eff) (K : St → Prop) : Prop :=
  match e, dst with
  | some ⟨sc, val, up, false⟩, some d => d < n ∧ subL (val.ids ++ upIds up) u = true ∧ sc ∧ K ⟨n, u, (d, val) :: sl, up ++ hp⟩
  | some ⟨sc, val, up, true⟩, some d => d < n ∧ u.contains d = false ∧ subL (val.ids ++ upIds up) (d :: u) = true ∧ sc ∧ K ⟨n, d :: u, (d, val) :: sl, up ++ hp⟩
  | some ⟨sc, val, up, false⟩, none => subL (val.ids ++ upIds up) u = true ∧ sc ∧ K ⟨n, u, sl, up ++ hp⟩
  | _, _ => False
theorem goE_val (n : Nat) (u : List Nat) (sl : List (Nat × AV)) (hp : Hp) (d : Nat) (sc : Prop) (val : AV) (up : Hp) (K : St → Prop) : goE n u sl hp (some d) (some ⟨sc, val, up, false⟩) K = (d < n ∧ subL (val.ids ++ upIds up) u = true ∧ sc ∧ K ⟨n, u, (d, val) :: sl, up ++ hp⟩) := rfl
theorem goE_new (n : Nat) (u : List Nat) (sl : List (Nat × AV)) (hp : Hp) (d : Nat) (sc : Prop) (val : AV) (up : Hp) (K : St → Prop) : goE n u sl hp (some d) (some ⟨sc, val, up, true⟩) K = (d < n ∧ u.contains d = false ∧ subL (val.ids ++ upIds up) (d :: u) = true ∧ sc ∧ K ⟨n, d :: u, (d, val) :: sl, up ++ hp⟩) := rfl
theorem goE_store (n : Nat) (u : List Nat) (sl : List (Nat × AV)) (hp : Hp) (sc : Prop) (val : AV) (up : Hp) (K : St → Prop) : goE n u sl hp none (some ⟨sc, val, up, false⟩) K = (subL (val.ids ++ upIds up) u = true ∧ sc ∧ K ⟨n, u, sl, up ++ hp⟩) := rfl
section
variable (P : Program) (Γ : Gam) (D : Array Oper → St → (St → Prop) → Prop) (n : Nat) (u : List Nat) (sl : List (Nat × AV)) (hp : Hp) (ops : Array Oper) (K : St → Prop) (Q : Exit → St → Prop)
theorem runOps_nil : runOps P Γ ops [] ⟨n, u, sl, hp⟩ K = K ⟨n, u, sl, hp⟩ := rfl
theorem runOps_cons (o : Oper) (os : List Oper) : runOps P Γ ops (o :: os) ⟨n, u, sl, hp⟩ K = runOp P Γ ops o ⟨n, u, sl, hp⟩ fun s' => runOps P Γ ops os s' K := rfl
theorem runOp_none (dst : Option Nat) (op : Op) (ty : Nat) (pos : String) (aft : Array Edge) : runOp P Γ ops ⟨dst, op, ty, pos, aft, none⟩ ⟨n, u, sl, hp⟩ K = goE n u sl hp dst ((St.mk n u sl hp).effOf P Γ (dst.getD 0) op) K := by
  simp only [runOp, goE]
  cases (St.mk n u sl hp).effOf P Γ (dst.getD 0) op with
  | none => cases dst <;> rfl
  | some e =>
    obtain ⟨sc, val, up, new⟩ := e
    cases dst <;> cases new <;> simp [St.okB, St.upd, and_assoc]
def gdL : List Oper → Nat → Option Nat
  | o :: _, 0 => o.dst
  | _ :: os, j + 1 => gdL os j
  | [], _ => none
theorem gdL_eq : ∀ (l : List Oper) (j : Nat), gdL l j = (l[j]?).bind (·.dst)
  | [], _ => by simp [gdL]
  | o :: os, 0 => rfl
  | o :: os, j + 1 => by simp [gdL, gdL_eq os j]
def gdV (sl : List (Nat × AV)) : Option Nat → Option (List Bool × Bool)
  | some t => boolOf (lk sl (.tmp t))
  | none => none
def goG (n : Nat) (u : List Nat) (sl : List (Nat × AV)) (hp : Hp) (d : Nat) (g : List Bool) (e : Option Eff) (K : St → Prop) : Prop :=
  match e with
  | some e => match e.up.isEmpty && !e.new with
    | true => d < n ∧ subL e.val.ids u = true ∧ (allB g = true → e.sc) ∧ K ⟨n, u, (d, .gd g e.val) :: sl, hp⟩
    | false => d < n ∧ if allB g = true then goE n u sl hp (some d) (some e) K else K ⟨n, u, (d, .gd g .bad) :: sl, hp⟩
  | none => d < n ∧ allB g = false ∧ K ⟨n, u, (d, .gd g .bad) :: sl, hp⟩
def goH (n : Nat) (u : List Nat) (sl : List (Nat × AV)) (hp : Hp) (d : Nat) (b : Option (List Bool × Bool)) (want : Bool) (f : List Bool → Option Eff) (K : St → Prop) : Prop :=
  match b with
  | some b => goG n u sl hp d (gOf b want) (f (gOf b want)) K
  | none => False
theorem goG_val (d : Nat) (g : List Bool) (sc : Prop) (val : AV) : goG n u sl hp d g (some ⟨sc, val, [], false⟩) K = (d < n ∧ subL val.ids u = true ∧ (allB g = true → sc) ∧ K ⟨n, u, (d, .gd g val) :: sl, hp⟩) := by simp [goG]
theorem goG_none (d : Nat) (g : List Bool) : goG n u sl hp d g none K = (d < n ∧ allB g = false ∧ K ⟨n, u, (d, .gd g .bad) :: sl, hp⟩) := rfl
theorem goG_new (d : Nat) (g : List Bool) (sc : Prop) (val : AV) (up : Hp) : goG n u sl hp d g (some ⟨sc, val, up, true⟩) K = (d < n ∧ if allB g = true then goE n u sl hp (some d) (some ⟨sc, val, up, true⟩) K else K ⟨n, u, (d, .gd g .bad) :: sl, hp⟩) := by simp [goG]
theorem goG_up (d : Nat) (g : List Bool) (sc : Prop) (val : AV) (p : Nat × Option AObj) (up : Hp) : goG n u sl hp d g (some ⟨sc, val, p :: up, false⟩) K = (d < n ∧ if allB g = true then goE n u sl hp (some d) (some ⟨sc, val, p :: up, false⟩) K else K ⟨n, u, (d, .gd g .bad) :: sl, hp⟩) := by simp [goG]
theorem goH_true (d : Nat) (gs : List Bool) (b : Bool) (f : List Bool → Option Eff) : goH n u sl hp d (some (gs, b)) true f K = goG n u sl hp d (gs ++ [b]) (f (gs ++ [b])) K := rfl
theorem goH_false (d : Nat) (gs : List Bool) (b : Bool) (f : List Bool → Option Eff) : goH n u sl hp d (some (gs, b)) false f K = goG n u sl hp d (gs ++ [!b]) (f (gs ++ [!b])) K := rfl
theorem at_mk (g : List Bool) : (St.mk n u sl hp).at g = ⟨n, u, sl.map fun p => (p.1, unw g p.2), hp⟩ := rfl
theorem runOp_guard (d : Nat) (op : Op) (ty : Nat) (pos : String) (aft : Array Edge) (j : Nat) (want : Bool) (l : List Oper) : runOp P Γ l.toArray ⟨some d, op, ty, pos, aft, some (j, want)⟩ ⟨n, u, sl, hp⟩ K =
    goH n u sl hp d (gdV sl (gdL l j)) want (fun g => ((St.mk n u sl hp).at g).effOf P Γ d op) K := by
  have e : (St.mk n u sl hp).guard l.toArray j = gdV sl (gdL l j) := by
    rw [gdL_eq]
    unfold St.guard gdV
    rw [List.getElem?_toArray, look_mk]
    cases (l[j]?).bind (·.dst) <;> rfl
  simp only [runOp, e, goH, goG]
  cases gdV sl (gdL l j) with
  | none => rfl
  | some b =>
    simp only
    cases (St.at ⟨n, u, sl, hp⟩ (gOf b want)).effOf P Γ d op with
    | none => rfl
    | some ef =>
      simp only
      cases hup : (ef.up.isEmpty && !ef.new) with
      | true => rfl
      | false =>
        obtain ⟨sc, val, up, new⟩ := ef
        cases new <;> simp [goE, St.okB, St.upd, and_assoc]
theorem wpc_skip : wpc P Γ D .skip Q ⟨n, u, sl, hp⟩ = Q .normal ⟨n, u, sl, hp⟩ := rfl
theorem wpc_region (id : Nat) (l : List Oper) : wpc P Γ D (.region id l.toArray false) Q ⟨n, u, sl, hp⟩ = runOps P Γ l.toArray l ⟨n, u, sl, hp⟩ (Q .normal) := rfl
theorem wpc_draw (id : Nat) (l : List Oper) : wpc P Γ D (.region id l.toArray true) Q ⟨n, u, sl, hp⟩ = D l.toArray ⟨n, u, sl, hp⟩ (Q .normal) := rfl
theorem wpc_seq (x y : Code) : wpc P Γ D (.seq x y) Q ⟨n, u, sl, hp⟩ = wpc P Γ D x (thenS (wpc P Γ D y Q) Q) ⟨n, u, sl, hp⟩ := rfl
def condE (c : AV) (x y : Prop) : Prop :=
  match c with
  | .d (.v (.bool b)) => if b = true then x else y
  | _ => False
theorem condE_bool (b : Bool) (x y : Prop) : condE (.d (.v (.bool b))) x y = if b = true then x else y := rfl
theorem wpc_cond (t : Nat) (x y : Code) : wpc P Γ D (.cond (.tmp t) x y) Q ⟨n, u, sl, hp⟩ = (match lk sl (.tmp t) with | .d (.v (.bool b)) => if b = true then wpc P Γ D x Q ⟨n, u, sl, hp⟩ else wpc P Γ D y Q ⟨n, u, sl, hp⟩ | _ => False) := by
  simp only [wpc, condS, look_mk]
  cases lk sl (.tmp t) with
  | d x => cases x with
    | v x => cases x <;> rfl
    | sl _ _ => rfl
  | _ => rfl
theorem wpc_block (id : Nat) (x : Code) : wpc P Γ D (.block id x) Q ⟨n, u, sl, hp⟩ = wpc P Γ D x (inBlockS id Q) ⟨n, u, sl, hp⟩ := rfl
theorem wpc_exit (id : Nat) : wpc P Γ D (.exit id) Q ⟨n, u, sl, hp⟩ = Q (.exit id) ⟨n, u, sl, hp⟩ := rfl
theorem wpc_ret : wpc P Γ D .ret Q ⟨n, u, sl, hp⟩ = Q .ret ⟨n, u, sl, hp⟩ := rfl
theorem thenS_normal (A : St → Prop) (s : St) : thenS A Q .normal s = A s := rfl
theorem thenS_exit (A : St → Prop) (id : Nat) (s : St) : thenS A Q (.exit id) s = Q (.exit id) s := rfl
theorem thenS_ret (A : St → Prop) (s : St) : thenS A Q .ret s = Q .ret s := rfl
theorem inBlockS_normal (id : Nat) (s : St) : inBlockS id Q .normal s = Q .normal s := rfl
theorem inBlockS_exit (id j : Nat) (s : St) : inBlockS id Q (.exit j) s = if j = id then Q .normal s else Q (.exit j) s := rfl
theorem inBlockS_ret (id : Nat) (s : St) : inBlockS id Q .ret s = Q .ret s := rfl
end
theorem effOf_value (P : Program) (Γ : Gam) (n : Nat) (u : List Nat) (sl : List (Nat × AV)) (hp : Hp) (d : Nat) (f : Operand) (l : List Operand) (ts : Array Nat) :
    (St.mk n u sl hp).effOf P Γ d (.call { callee := .value f, args := l.toArray, argTypes := ts }) = (match lk sl f with | .fn g caps => Γ g (Hp.get hp) d (l.map (lk sl) ++ caps) | _ => none) := by
  simp only [St.effOf, look_mk]
  cases lk sl f <;> rfl
def retR (P : Program) (rs : List ResultVar) (res : AV) : Exit → St → Prop
  | .ret, s | .normal, s => match resL P s rs with
    | some l => match fz s.hp.get (one l) with
      | some (c, _) => Sub c res
      | none => False
    | none => False
  | _, _ => False
theorem Body.of {P : Program} {Γ : Gam} {D : Array Oper → St → (St → Prop) → Prop} {g : Nat} {args : List AV} {res : AV} {fn : Func} {c : Code} {n : Nat} (h1 : P.funcs[g]? = some fn) (hn : fn.ntmps = n) (h2 : (fn.name == "runtime.NumGoroutine") = false) (h3 : fn.body = some c) {rs : List ResultVar} (hr : fn.results = rs.toArray)
    (hl : (Nat.ble args.length n && Nat.ble n 10000) = true) (h : wpc P Γ D c (retR P rs res) ⟨n, [], startL 0 args, []⟩) : Body P Γ D g args res := ⟨fn, c, h1, h2, h3, by rw [hn]; rw [Bool.and_eq_true] at hl; exact ⟨Nat.le_of_ble_eq_true hl.1, Nat.le_of_ble_eq_true hl.2⟩, by
  have hr' : rs = fn.results.toList := by rw [hr]
  have e : retQ P fn res = retR P rs res := by subst hr'; funext e s; cases e <;> rfl
  rw [hn, e]; exact h⟩
theorem get_nil (o : Nat) : Hp.get [] o = none := rfl
def retE (c : Option (AV × List Nat)) (res : AV) : Prop :=
  match c with
  | some (c, _) => Sub c res
  | none => False
def retF (P : Program) (rs : List ResultVar) (res : AV) (s : St) : Prop :=
  match resL P s rs with
  | some l => retE (fz s.hp.get (one l)) res
  | none => False
def condV (c : AV) (x y : Prop) : Prop :=
  match c with
  | .d (.v (.bool b)) => if b = true then x else y
  | _ => False
theorem subL_nil (u : List Nat) : subL [] u = true := rfl
theorem subL_cons (i : Nat) (l u : List Nat) : subL (i :: l) u = (u.contains i && subL l u) := rfl
theorem ids_d (x : Dat) : (AV.d x).ids = [] := rfl
theorem selP_or (p : Prop) [Decidable p] (b : Bool) : ((if p then true else b) = true) = (p ∨ b = true) := by by_cases h : p <;> simp [h]
theorem selP_and (p : Prop) [Decidable p] (b : Bool) : ((if p then b else false) = true) = (p ∧ b = true) := by by_cases h : p <;> simp [h]
theorem sel_and (c x : Bool) : (if c = true then x else false) = (c && x) := by cases c <;> rfl
theorem sel_or (c x : Bool) : (if c = true then true else x) = (c || x) := by cases c <;> rfl
theorem evC_cond (P : Program) (Γ : Gam) (D : Array Oper → St → (St → Prop) → Prop) (n : Nat) (u : List Nat) (sl : List (Nat × AV)) (hp : Hp) (Q : Exit → St → Prop) (t : Nat) (x y : Code) :
    wpc P Γ D (.cond (.tmp t) x y) Q ⟨n, u, sl, hp⟩ = condV (lk sl (.tmp t)) (wpc P Γ D x Q ⟨n, u, sl, hp⟩) (wpc P Γ D y Q ⟨n, u, sl, hp⟩) := by
  rw [wpc_cond]
  unfold condV
  cases lk sl (.tmp t) with
  | d x => cases x with
    | v x => cases x <;> rfl
    | sl _ _ => rfl
  | _ => rfl
/-- Control. -/
theorem evC :
    (∀ (P : Program) (Γ : Gam) (D : Array Oper → St → (St → Prop) → Prop) (n : Nat) (u : List Nat) (sl : List (Nat × AV)) (hp : Hp) (Q : Exit → St → Prop), wpc P Γ D .skip Q ⟨n, u, sl, hp⟩ = Q .normal ⟨n, u, sl, hp⟩) ∧
    (∀ (P : Program) (Γ : Gam) (D : Array Oper → St → (St → Prop) → Prop) (n : Nat) (u : List Nat) (sl : List (Nat × AV)) (hp : Hp) (Q : Exit → St → Prop) (id : Nat) (l : List Oper), wpc P Γ D (.region id (List.toArray l) false) Q ⟨n, u, sl, hp⟩ = runOps P Γ l.toArray l ⟨n, u, sl, hp⟩ (Q .normal)) ∧
    (∀ (P : Program) (Γ : Gam) (D : Array Oper → St → (St → Prop) → Prop) (n : Nat) (u : List Nat) (sl : List (Nat × AV)) (hp : Hp) (Q : Exit → St → Prop) (id : Nat) (l : List Oper), wpc P Γ D (.region id (List.toArray l) true) Q ⟨n, u, sl, hp⟩ = D l.toArray ⟨n, u, sl, hp⟩ (Q .normal)) ∧
    (∀ (P : Program) (Γ : Gam) (D : Array Oper → St → (St → Prop) → Prop) (n : Nat) (u : List Nat) (sl : List (Nat × AV)) (hp : Hp) (Q : Exit → St → Prop) (x : Code) (y : Code), wpc P Γ D (.seq x y) Q ⟨n, u, sl, hp⟩ = wpc P Γ D x (thenS (wpc P Γ D y Q) Q) ⟨n, u, sl, hp⟩) ∧
    (∀ (P : Program) (Γ : Gam) (D : Array Oper → St → (St → Prop) → Prop) (n : Nat) (u : List Nat) (sl : List (Nat × AV)) (hp : Hp) (Q : Exit → St → Prop) (t : Nat) (x : Code) (y : Code), wpc P Γ D (.cond (.tmp t) x y) Q ⟨n, u, sl, hp⟩ = condV (lk sl (.tmp t)) (wpc P Γ D x Q ⟨n, u, sl, hp⟩) (wpc P Γ D y Q ⟨n, u, sl, hp⟩)) ∧
    (∀ (P : Program) (Γ : Gam) (D : Array Oper → St → (St → Prop) → Prop) (n : Nat) (u : List Nat) (sl : List (Nat × AV)) (hp : Hp) (Q : Exit → St → Prop) (id : Nat) (x : Code), wpc P Γ D (.block id x) Q ⟨n, u, sl, hp⟩ = wpc P Γ D x (inBlockS id Q) ⟨n, u, sl, hp⟩) ∧
    (∀ (P : Program) (Γ : Gam) (D : Array Oper → St → (St → Prop) → Prop) (n : Nat) (u : List Nat) (sl : List (Nat × AV)) (hp : Hp) (Q : Exit → St → Prop) (id : Nat), wpc P Γ D (.exit id) Q ⟨n, u, sl, hp⟩ = Q (.exit id) ⟨n, u, sl, hp⟩) ∧
    (∀ (P : Program) (Γ : Gam) (D : Array Oper → St → (St → Prop) → Prop) (n : Nat) (u : List Nat) (sl : List (Nat × AV)) (hp : Hp) (Q : Exit → St → Prop), wpc P Γ D .ret Q ⟨n, u, sl, hp⟩ = Q .ret ⟨n, u, sl, hp⟩) ∧
    (∀ (A : St → Prop) (Q : Exit → St → Prop) (s : St), thenS A Q .normal s = A s) ∧
    (∀ (A : St → Prop) (Q : Exit → St → Prop) (id : Nat) (s : St), thenS A Q (.exit id) s = Q (.exit id) s) ∧
    (∀ (A : St → Prop) (Q : Exit → St → Prop) (s : St), thenS A Q .ret s = Q .ret s) ∧
    (∀ (Q : Exit → St → Prop) (id : Nat) (s : St), inBlockS id Q .normal s = Q .normal s) ∧
    (∀ (Q : Exit → St → Prop) (id j : Nat) (s : St), inBlockS id Q (.exit j) s = if j = id then Q .normal s else Q (.exit j) s) ∧
    (∀ (Q : Exit → St → Prop) (id : Nat) (s : St), inBlockS id Q .ret s = Q .ret s) ∧
    (∀ (P : Program) (Γ : Gam) (n : Nat) (u : List Nat) (sl : List (Nat × AV)) (hp : Hp) (K : St → Prop) (ops : Array Oper), runOps P Γ ops [] ⟨n, u, sl, hp⟩ K = K ⟨n, u, sl, hp⟩) ∧
    (∀ (P : Program) (Γ : Gam) (n : Nat) (u : List Nat) (sl : List (Nat × AV)) (hp : Hp) (K : St → Prop) (ops : Array Oper) (o : Oper) (os : List Oper), runOps P Γ ops (o :: os) ⟨n, u, sl, hp⟩ K = runOp P Γ ops o ⟨n, u, sl, hp⟩ fun s' => runOps P Γ ops os s' K) ∧
    (∀ (P : Program) (Γ : Gam) (n : Nat) (u : List Nat) (sl : List (Nat × AV)) (hp : Hp) (K : St → Prop) (ops : Array Oper) (dst : Option Nat) (op : Op) (ty : Nat) (pos : String) (aft : Array Edge), runOp P Γ ops ⟨dst, op, ty, pos, aft, none⟩ ⟨n, u, sl, hp⟩ K = goE n u sl hp dst ((St.mk n u sl hp).effOf P Γ (dst.getD 0) op) K) ∧
    (∀ (P : Program) (Γ : Gam) (n : Nat) (u : List Nat) (sl : List (Nat × AV)) (hp : Hp) (K : St → Prop) (l : List Oper) (d : Nat) (op : Op) (ty : Nat) (pos : String) (aft : Array Edge) (j : Nat) (want : Bool), runOp P Γ (List.toArray l) ⟨some d, op, ty, pos, aft, some (j, want)⟩ ⟨n, u, sl, hp⟩ K = goH n u sl hp d (gdV sl (gdL l j)) want (fun g => (St.mk n u (sl.map fun p => (p.1, unw g p.2)) hp).effOf P Γ d op) K) ∧
    (∀ (P : Program) (rs : List ResultVar) (res : AV) (s : St), retR P rs res .ret s = retF P rs res s) ∧
    (∀ (P : Program) (rs : List ResultVar) (res : AV) (s : St), retR P rs res .normal s = retF P rs res s) :=
  ⟨fun _ _ _ _ _ _ _ _ => rfl,
    fun _ _ _ _ _ _ _ _ _ _ => rfl,
    fun _ _ _ _ _ _ _ _ _ _ => rfl,
    fun _ _ _ _ _ _ _ _ _ _ => rfl,
    fun P Γ D n u sl hp Q t x y => evC_cond P Γ D n u sl hp Q t x y,
    fun _ _ _ _ _ _ _ _ _ _ => rfl,
    fun _ _ _ _ _ _ _ _ _ => rfl,
    fun _ _ _ _ _ _ _ _ => rfl,
    fun _ _ _ => rfl,
    fun _ _ _ _ => rfl,
    fun _ _ _ => rfl,
    fun _ _ _ => rfl,
    fun _ _ _ _ => rfl,
    fun _ _ _ => rfl,
    fun _ _ _ _ _ _ _ _ => rfl,
    fun _ _ _ _ _ _ _ _ _ _ => rfl,
    fun P Γ n u sl hp K ops dst op ty pos aft => runOp_none P Γ n u sl hp ops K dst op ty pos aft,
    fun P Γ n u sl hp K l d op ty pos aft j want => runOp_guard P Γ n u sl hp K d op ty pos aft j want l,
    fun _ _ _ _ => rfl,
    fun _ _ _ _ => rfl⟩
theorem evV :
    (∀ (b : Bool) (x y : Prop), condV (.d (.v (.bool b))) x y = if b = true then x else y) ∧ (∀ b : Bool, boolOf (.d (.v (.bool b))) = some ([], b)) ∧ (∀ gs b, boolOf (.gd gs (.d (.v (.bool b)))) = some (gs, b)) ∧ (∀ sl t, gdV sl (some t) = boolOf (lk sl (.tmp t))) ∧
    (∀ o os, gdL (o :: os) 0 = o.dst) ∧ (∀ o os j, gdL (o :: os) (j + 1) = gdL os j) ∧ (∀ c k res, retE (some (c, k)) res = Sub c res) := ⟨fun _ _ _ => rfl, fun _ => rfl, fun _ _ => rfl, fun _ _ => rfl, fun _ _ => rfl, fun _ _ _ => rfl, fun _ _ _ => rfl⟩
theorem Draws {P : Program} {Γ : Gam} (hm : P.follows .mixedOrders = true) (hG : Gok P Γ) (hL : Gloc Γ) : DrawOk P Γ (DRun P Γ) := fun _ _ _ _ _ _ _ _ h S => draw_ok hm hG hL h S
/-- A function that keeps nothing is known by its body; what calls itself is known where less is left. -/
def lim (F : List AV → Option (Prop × AV)) (μ : List AV → Nat) (n : Nat) (args : List AV) : Option (Prop × AV) :=
  match F args with
  | some (sc, res) => some (sc ∧ μ args < n, res)
  | none => none
structure Known (P : Program) (Γ : Gam) : Prop where
  ok : Gok P Γ
  loc : Gloc Γ
theorem Known.none (P : Program) : Known P Gam.none := ⟨Gok.none, Gloc.none⟩
theorem Known.add {P : Program} {Γ : Gam} (hm : P.follows .mixedOrders = true) (K : Known P Γ) {g0 : Nat} {F : List AV → Option (Prop × AV)}
    (hF : ∀ args sc res, F args = some (sc, res) → sc → AV.ids.idsL args = [] → res.ids = [] ∧ Body P Γ (DRun P Γ) g0 args res) : Known P (Γ.add g0 F) :=
  ⟨K.ok.add fun args sc res h hs hi => let ⟨h1, h2⟩ := hF args sc res h hs hi; Body.calm K.ok (Draws hm K.ok K.loc) hi h1 h2, K.loc.add g0 F⟩
theorem Known.addRec {P : Program} {Γ : Gam} (hm : P.follows .mixedOrders = true) (K : Known P Γ) {g0 : Nat} {F : List AV → Option (Prop × AV)} (μ : List AV → Nat)
    (hF : ∀ args sc res, F args = some (sc, res) → sc → AV.ids.idsL args = [] → res.ids = [] ∧ ∀ Γ', Γ' = Γ.add g0 (lim F μ (μ args)) → Body P Γ' (DRun P Γ') g0 args res) : Known P (Γ.add g0 F) := by
  have key : ∀ n, Known P (Γ.add g0 (lim F μ n)) := fun n => by
    induction n using Nat.strongRecOn with
    | ind n ih =>
      refine ⟨K.ok.add fun args sc res h hs hi => ?_, K.loc.add g0 _⟩
      unfold lim at h
      split at h
      · rename_i sc' res' hf
        cases h
        obtain ⟨h1, h2⟩ := hs
        obtain ⟨h3, h4⟩ := hF args sc' res hf h1 hi
        have Kn := ih (μ args) h2
        exact Body.calm Kn.ok (Draws hm Kn.ok Kn.loc) hi h3 (h4 _ rfl)
      · cases h
  refine ⟨K.ok.add fun args sc res h hs hi => ?_, K.loc.add g0 F⟩
  obtain ⟨h3, h4⟩ := hF args sc res h hs hi
  have Kn := key (μ args)
  exact Body.calm Kn.ok (Draws hm Kn.ok Kn.loc) hi h3 (h4 _ rfl)
end Go.Proofs.Ytlhhibhcoefolaa.Eng
