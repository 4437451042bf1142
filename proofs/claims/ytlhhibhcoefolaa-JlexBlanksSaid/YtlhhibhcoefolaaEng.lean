/- A small abstract machine for Go's operations: what is read for good (Dat), what a slot holds (AV), what the call owns (AObj), and how these stand in the model's worlds. -/
import Derived.Orders
import Derived.Deep.AppendSrc
import Derived.Deep.MidRow
import Derived.Laws.AppendOwn
namespace Go.Proofs.Ytlhhibhcoefolaa.Eng
open Go

/-- What is read, and never written again: one cell, or a slice of elements, each a list of cells. -/
inductive Dat where
  | v (u : Value)
  | sl (sz : Nat) (xs : List (List Dat))
instance : Inhabited Dat := ⟨.v .nilFunc⟩
/-- What a slot holds. -/
inductive AV where
  | d (x : Dat)
  | agg (cs : List AV)
  | ptr (o off : Nat)
  | ep (cs : List Dat) (off : Nat)
  | row (o n : Nat)
  | rp (o sz i off : Nat)
  | fn (f : Nat) (cs : List AV)
  | tup (cs : List AV)
  | gd (gs : List Bool) (c : AV)
  | bad
instance : Inhabited AV := ⟨.bad⟩
/-- All of them hold. -/
def allB : List Bool → Bool
  | [] => true
  | g :: gs => g && allB gs
theorem allB_append (a b : List Bool) : allB (a ++ b) = (allB a && allB b) := by
  induction a with
  | nil => rfl
  | cons g a ih => simp [allB, ih, Bool.and_assoc]
/-- What the call owns: the cells of a variable, or a row that it may append to. -/
inductive AObj where
  | cells (t : Nat) (cs : List AV)
  | row (e sz : Nat) (xs : List (List Dat))

/-- The value reads so, in blocks that stay as they are. -/
inductive Rd (w : World) (im : Nat → Prop) : Value → Dat → Prop where
  | v {u : Value} (h : u.oneCell' = true) : Rd w im u (.v u)
  | nil (sz : Nat) : Rd w im (.slice none 0 0) (.sl sz [])
  | sl {a : Addr} {len cap sz : Nat} {xs : List (List Dat)} (vs : Nat → Nat → Value) (hs : xs ≠ [] → a.spot = none) (hl : len = xs.length) (hc : len ≤ cap) (hi : xs ≠ [] → im a.block)
      (hz : ∀ (i : Nat) (r : List Dat), xs[i]? = some r → r.length = sz)
      (hw : ∀ (i j : Nat) (r : List Dat) (x : Dat), xs[i]? = some r → r[j]? = some x → w.cell? (a.add (i * sz + j)) = some (vs i j))
      (hr : ∀ (i j : Nat) (r : List Dat) (x : Dat), xs[i]? = some r → r[j]? = some x → Rd w im (vs i j) x) : Rd w im (.slice (some a) len cap) (.sl sz xs)

inductive Val (w : World) (im : Nat → Prop) (m : Nat → Value) : Value → AV → Prop where
  | d {u : Value} {x : Dat} (h : Rd w im u x) : Val w im m u (.d x)
  | agg {us : Array Value} {cs : List AV} (hn : us.size = cs.length) (h : ∀ (i : Nat) (u : Value) (c : AV), us[i]? = some u → cs[i]? = some c → Val w im m u c) : Val w im m (.agg us) (.agg cs)
  | ptr {o off b : Nat} (h : m o = .pointer (some ⟨b, 0, none⟩)) : Val w im m (.pointer (some ⟨b, off, none⟩)) (.ptr o off)
  | ep {a : Addr} {cs : List Dat} {off : Nat} (vs : Nat → Value) (hs : a.spot = none) (hi : cs ≠ [] → im a.block)
      (hw : ∀ (j : Nat) (x : Dat), cs[j]? = some x → w.cell? (a.add j) = some (vs j)) (hr : ∀ (j : Nat) (x : Dat), cs[j]? = some x → Rd w im (vs j) x) : Val w im m (.pointer (some (a.add off))) (.ep cs off)
  | row {o n cap : Nat} {a : Option Addr} (h : m o = .slice a n cap) : Val w im m (.slice a n cap) (.row o n)
  | rp {o sz i off b n cap : Nat} (h : m o = .slice (some ⟨b, 0, none⟩) n cap) : Val w im m (.pointer (some ⟨b, i * sz + off, none⟩)) (.rp o sz i off)
  | fn {f : Nat} {us : Array Value} {cs : List AV} (hn : us.size = cs.length) (h : ∀ (i : Nat) (u : Value) (c : AV), us[i]? = some u → cs[i]? = some c → Val w im m u c) : Val w im m (.func (.func f) #[] us) (.fn f cs)
  | tup {us : Array Value} {cs : List AV} (hn : us.size = cs.length) (h : ∀ (i : Nat) (u : Value) (c : AV), us[i]? = some u → cs[i]? = some c → Val w im m u c) : Val w im m (.tuple us) (.tup cs)
  | gd {u : Value} {gs : List Bool} {c : AV} (h : allB gs = true → Val w im m u c) (hn : allB gs = false → u = undef) : Val w im m u (.gd gs c)
  | bad (u : Value) : Val w im m u .bad

/-- The objects that an abstract value names. -/
def AV.ids : AV → List Nat
  | .d _ | .ep _ _ | .bad => []
  | .ptr o _ | .row o _ | .rp o _ _ _ => [o]
  | .agg cs | .fn _ cs | .tup cs => idsL cs
  | .gd _ c => c.ids
where idsL : List AV → List Nat
  | [] => []
  | c :: cs => c.ids ++ idsL cs
def AObj.ids : AObj → List Nat
  | .cells _ cs => AV.ids.idsL cs
  | .row _ _ _ => []
theorem idsL_mem {c : AV} : ∀ {cs : List AV} {i : Nat}, cs[i]? = some c → ∀ o ∈ c.ids, o ∈ AV.ids.idsL cs
  | d :: cs, 0, h, o, ho => by
    simp only [List.getElem?_cons_zero, Option.some.injEq] at h
    subst h
    exact List.mem_append.2 (.inl ho)
  | d :: cs, i + 1, h, o, ho => by
    simp only [List.getElem?_cons_succ] at h
    exact List.mem_append.2 (.inr (idsL_mem h o ho))
/-- One cell's worth. -/
def AV.cell : AV → Bool
  | .agg _ | .tup _ | .gd _ _ | .bad => false
  | _ => true
theorem Val.one {w : World} {im : Nat → Prop} {m : Nat → Value} {u : Value} {c : AV} (h : Val w im m u c) (hc : c.cell = true) : u.oneCell' = true := by
  cases h with
  | d h => cases h <;> first | assumption | rfl
  | agg => cases hc
  | tup => cases hc
  | gd => cases hc
  | bad => cases hc
  | _ => rfl

theorem Rd.mono {w w' : World} {im im' : Nat → Prop} (h : ∀ b, im b → im' b ∧ w'.heap[b]? = w.heap[b]?) {u : Value} {x : Dat} (r : Rd w im u x) : Rd w' im' u x := by
  induction r with
  | v h => exact .v h
  | nil sz => exact .nil sz
  | sl vs hs hl hc hi hz hw hr ih =>
    refine .sl vs hs hl hc (fun hne => (h _ (hi hne)).1) hz (fun i j r x h1 h2 => ?_) (fun i j r x h1 h2 => ih i j r x h1 h2)
    have hne := List.ne_nil_of_mem (List.mem_of_getElem? h1)
    have hb := (h _ (hi hne)).2
    rw [World.cell?_of_block (w := w)]
    · exact hw i j r x h1 h2
    · have e : ∀ (a : Addr) n, (a.add n).block = a.block := fun a n => by unfold Addr.add; split <;> rfl
      rw [e]; exact hb
theorem add_block (a : Addr) (n : Nat) : (a.add n).block = a.block := by unfold Addr.add; split <;> rfl
theorem add_add (a : Addr) (hs : a.spot = none) (n k : Nat) : (a.add n).add k = a.add (n + k) := by
  obtain ⟨b, o, s⟩ := a
  subst hs
  by_cases h1 : n = 0 <;> by_cases h2 : k = 0 <;> simp [Addr.add, h1, h2, Nat.add_assoc]
theorem add_spot (a : Addr) (hs : a.spot = none) (n : Nat) : (a.add n).spot = none := by unfold Addr.add; split <;> simp_all
theorem addr_eta (a : Addr) (hs : a.spot = none) (n : Nat) : a.add n = ⟨a.block, a.off + n, none⟩ := by
  obtain ⟨b, o, s⟩ := a
  subst hs
  by_cases h1 : n = 0 <;> simp [Addr.add, h1]
theorem Val.mono {w w' : World} {im im' : Nat → Prop} {m m' : Nat → Value} {u : Value} {c : AV} (h : ∀ b, im b → im' b ∧ w'.heap[b]? = w.heap[b]?) (hm : ∀ o ∈ c.ids, m' o = m o) (r : Val w im m u c) : Val w' im' m' u c := by
  induction r with
  | d r => exact .d (r.mono h)
  | agg hn _ ih => exact .agg hn fun i u c h1 h2 => ih i u c h1 h2 fun o ho => hm o (idsL_mem h2 o ho)
  | ptr e => exact .ptr (by rw [hm _ (by simp [AV.ids])]; exact e)
  | ep vs hs hi hw hr =>
    refine .ep vs hs (fun hne => (h _ (hi hne)).1) (fun j x h1 => ?_) (fun j x h1 => (hr j x h1).mono h)
    have hne := List.ne_nil_of_mem (List.mem_of_getElem? h1)
    rw [World.cell?_of_block (w := w) (by rw [add_block]; exact (h _ (hi hne)).2)]
    exact hw j x h1
  | row e => exact .row (by rw [hm _ (by simp [AV.ids])]; exact e)
  | rp e => exact .rp (by rw [hm _ (by simp [AV.ids])]; exact e)
  | fn hn _ ih => exact .fn hn fun i u c h1 h2 => ih i u c h1 h2 fun o ho => hm o (idsL_mem h2 o ho)
  | tup hn _ ih => exact .tup hn fun i u c h1 h2 => ih i u c h1 h2 fun o ho => hm o (idsL_mem h2 o ho)
  | gd _ hn ih => exact .gd (fun hg => ih hg hm) hn
  | bad u => exact .bad u

/-- The heap's objects: the first entry of a name counts. -/
abbrev Hp := List (Nat × Option AObj)
def Hp.get (hp : Hp) (o : Nat) : Option AObj := (hp.lookup o).join
def blk : Value → Option Nat
  | .pointer (some a) => some a.block
  | .slice (some a) _ _ => some a.block
  | _ => none

def ObjSat (w : World) (im : Nat → Prop) (m : Nat → Value) (o : Nat) : AObj → Prop
  | .cells e cs => ∃ (b : Nat) (us : Array Value), m o = .pointer (some ⟨b, 0, none⟩) ∧ w.heap[b]? = some (.cells us e (0, 0)) ∧ us.size = cs.length ∧ (∀ (i : Nat) (u : Value) (c : AV), us[i]? = some u → cs[i]? = some c → Val w im m u c) ∧ ∀ c ∈ cs, c.cell = true
  | .row e sz xs => ∃ us : List Value, w.ownsRow 0 e sz (m o) xs.length us ∧ (∀ (i : Nat) (r : List Dat), xs[i]? = some r → r.length = sz) ∧
      ∀ (i j : Nat) (r : List Dat) (x : Dat), xs[i]? = some r → r[j]? = some x → ∃ u, us[i * sz + j]? = some u ∧ Rd w im u x

/-- The tables that the program lays, and that no call writes: a variable's number, its cells. -/
def tabL : List (Nat × List Value) := []
/-- The world holds the tables. -/
def TabsAt (w : World) (ok : Nat → Prop) : Prop := ∀ g l, tabL.lookup g = some l → ok g ∧ ∀ i v, l[i]? = some v → v.oneCell' = true ∧ w.cell? ⟨g, i, none⟩ = some v
/-- Where a call begins: the world, the blocks that it was handed to write, those that it may read for good. -/
structure Ctx where
  w0 : World
  own0 : Nat → Prop
  ok : Nat → Prop
  okl : ∀ b, ok b → b < w0.heap.size
  oko : ∀ b, ok b → ¬ own0 b
  pin : Nat → Value
  tab : TabsAt w0 ok

def im (C : Ctx) (m : Nat → Value) (w : World) (hp : Hp) (b : Nat) : Prop :=
  b < w.heap.size ∧ (C.ok b ∨ C.own0 b ∨ C.w0.heap.size ≤ b) ∧ ∀ o obj, hp.get o = some obj → blk (m o) ≠ some b

structure Inv (C : Ctx) (m : Nat → Value) (w : World) (hp : Hp) : Prop where
  os : w.os = C.w0.os
  tape : w.tape = C.w0.tape
  output : w.output = C.w0.output
  size : C.w0.heap.size ≤ w.heap.size
  frame : ∀ b, b < C.w0.heap.size → ¬ C.own0 b → w.heap[b]? = C.w0.heap[b]?
  live : ∀ o obj, hp.get o = some obj → ObjSat w (im C m w hp) m o obj
  sep : ∀ o o' obj obj' b, hp.get o = some obj → hp.get o' = some obj' → o ≠ o' → blk (m o) = some b → blk (m o') ≠ some b
  own : ∀ o obj b, hp.get o = some obj → blk (m o) = some b → C.own0 b ∨ C.w0.heap.size ≤ b
theorem Inv.tab {C : Ctx} {m : Nat → Value} {w : World} {hp : Hp} (I : Inv C m w hp) : TabsAt w (im C m w hp) := fun g l h => by
  obtain ⟨h1, h2⟩ := C.tab g l h
  have hlt := C.okl g h1
  have hno := C.oko g h1
  refine ⟨⟨Nat.lt_of_lt_of_le hlt I.size, .inl h1, fun o obj ho hb => ?_⟩, fun i v hi => ⟨(h2 i v hi).1, ?_⟩⟩
  · rcases I.own o obj g ho hb with h | h
    · exact hno h
    · omega
  · rw [World.cell?_of_block (w := C.w0) (I.frame g hlt hno)]
    exact (h2 i v hi).2
end Go.Proofs.Ytlhhibhcoefolaa.Eng
