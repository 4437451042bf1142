/- Lemmas of this session's own for printed texts: function values, with or without captures, by what they answer. -/
import Derived.Test.YtlhhibhcoefolaaWMore
namespace Go.Proofs.YtlhhibhcoefolaaW.PrintWords
open Go.RowKit Go.Proofs.YtlhhibhcoefolaaW.PrintLast
/-- A function value (of a byte, to a Bool) answers p c at c, and does no more than draw, in each world that goes on from w. -/
def Fn1 (P : Program) (F : Value) (p : Int → Option Bool) (w : World) : Prop :=
  ∃ (f : FuncId) (fn : Func) (cap : Array Value), F = .func (.func f) #[] cap ∧ P.funcs[f]? = some fn ∧ (fn.name == "runtime.NumGoroutine") = false ∧ fn.body.isSome = true ∧
    ∀ w1, Below w.heap.size w w1 → ∀ c r, p c = some r → Calls P f (#[.int .u8 c] ++ cap) w1 fun e w2 => e = .returned (.bool r) ∧ Drawn0 w1 w2
theorem Fn1.below {P : Program} {F : Value} {p : Int → Option Bool} {w w1 : World} (h : Fn1 P F p w) (hb : Below w.heap.size w w1) : Fn1 P F p w1 := by
  obtain ⟨f, fn, cap, h1, h2, h3, h4, h5⟩ := h
  exact ⟨f, fn, cap, h1, h2, h3, h4, fun w2 hb2 => h5 w2 (hb.trans (hb2.mono hb.size))⟩
theorem Fn1.drewN {P : Program} {F : Value} {p : Int → Option Bool} {w : World} (h : Fn1 P F p w) (n : Nat) : Fn1 P F p (w.drewN n) :=
  h.below (Drawn0.below ((Drawn0.refl w).step n))
theorem setCell_drewN_ (w : World) (n : Nat) (a : Addr) (v : Value) : (w.drewN n).setCell a v = (w.setCell a v).drewN n := rfl
/-- A cell that was read, in a world that draws on. -/
theorem hy_ {w1 w2 : World} {a : Addr} {u : Value} (n : Nat) (h : w1.cell? a = some u) (e : w2 = w1.drewN n) : w2.cell? a = some u := by
  subst e
  exact h
section
variable {P : Program} {ops : Array Oper} {rest : List Oper} {o : Oper} {a : Act} {Q : Exit → Act → World → Prop} {W : World}
theorem gate_calleew {n : Tmp} {as : Array Operand} {ts : Array TypeId} (_ho : o.op = .call { callee := .value (.tmp n), args := as, argTypes := ts }) (h : wpList P ops Q (o :: rest) a W) : wpList P ops Q (o :: rest) a W := h
/-- A call of a function value in a row of operations. -/
theorem call_fn1 {F : Value} {p : Int → Option Bool} {c : Operand} {as : Array Operand} {ts : Array TypeId} {x : Int} {r : Bool} (hF : Fn1 P F p W) (hp : p x = some r)
    (hop : o.op = .call { callee := .value c, args := as, argTypes := ts }) (hargs : as.map a.eval = #[.int .u8 x]) (hc : a.eval c = F) (N : Option Tmp) (hd : o.dst = N) (hw : Region.wanted o (yielded ops a.tmps) = true)
    (h : ∀ n, wpList P ops Q rest (a.put N (.bool r)) (W.drewN n)) : wpList P ops Q (o :: rest) a W := by
  obtain ⟨f, fn, cap, rfl, hf, hname, hb, hcall⟩ := hF
  have he := enters_ hf hname hb (#[.int .u8 x] ++ cap) W
  have hrun : (execOp a.eval o).run P W = .ok (.enter f (#[.int .u8 x] ++ cap)) W := by
    unfold execOp
    simp only [hop]
    unfold resolve
    simp only [hc, Deferred.ofValue, invoke, hargs]
    simpa using he
  unfold wpList
  rw [if_pos hw]
  unfold Oper.wp
  rw [hrun, Oper.upon_enter]
  refine Or.inl ((hcall W (Below.refl _ _) x r hp).mono fun e w'' hh => ?_)
  obtain ⟨rfl, ⟨n, rfl⟩⟩ := hh
  subst hd
  exact h n
end
end Go.Proofs.YtlhhibhcoefolaaW.PrintWords
