/- SmapJson: part 1 of 15. -/
import Derived.Orders
import Derived.Deep.AppendSrc
import Derived.Deep.MidRow
import Derived.Laws.AppendOwn
section
namespace Go.Proofs.Ytgbialeahdoelaa.Eng
open Go

inductive Dat where
 | v (u : Value)
 | sl (sz : Nat) (xs : List (List Dat))
instance : Inhabited Dat := ⟨.v .nilFunc⟩
inductive AV where
 | d (x : Dat)
 | agg (cs : List AV)
 | ptr (o off : Nat)
 | ep (cs : List Dat) (off : Nat)
 | row (o n : Nat)
 | rp (o sz i off : Nat)
 | fn (f : Nat) (cs : List AV)
 | tup (cs : List AV)
 | gd (gs : List Bool) (c : AV)
 | bad
instance : Inhabited AV := ⟨.bad⟩
def allB : List Bool → Bool
 | [] => true
 | g :: gs => g && allB gs
theorem allB_append (a b : List Bool) : allB (a ++ b) = (allB a && allB b) := by
 induction a with
 | nil => rfl
 | cons g a ih => simp [allB, ih, Bool.and_assoc]
inductive AObj where
 | cells (t : Nat) (cs : List AV)
 | row (e sz : Nat) (xs : List (List Dat))

inductive Rd (w : World) (im : Nat → Prop) : Value → Dat → Prop where
 | v {u : Value} (h : u.oneCell' = true) : Rd w im u (.v u)
 | nil (sz : Nat) : Rd w im (.slice none 0 0) (.sl sz [])
 | sl {a : Addr} {len cap sz : Nat} {xs : List (List Dat)} (vs : Nat → Nat → Value) (hs : xs ≠ [] → a.spot = none) (hl : len = xs.length) (hc : len ≤ cap) (hi : xs ≠ [] → im a.block)
   (hz : ∀ (i : Nat) (r : List Dat), xs[i]? = some r → r.length = sz)
   (hw : ∀ (i j : Nat) (r : List Dat) (x : Dat), xs[i]? = some r → r[j]? = some x → w.cell? (a.add (i * sz + j)) = some (vs i j))
   (hr : ∀ (i j : Nat) (r : List Dat) (x : Dat), xs[i]? = some r → r[j]? = some x → Rd w im (vs i j) x) : Rd w im (.slice (some a) len cap) (.sl sz xs)

inductive Val (w : World) (im : Nat → Prop) (m : Nat → Value) : Value → AV → Prop where
 | d {u : Value} {x : Dat} (h : Rd w im u x) : Val w im m u (.d x)
 | agg {us : Array Value} {cs : List AV} (hn : us.size = cs.length) (h : ∀ (i : Nat) (u : Value) (c : AV), us[i]? = some u → cs[i]? = some c → Val w im m u c) : Val w im m (.agg us) (.agg cs)
 | ptr {o off b : Nat} (h : m o = .pointer (some ⟨b, 0, none⟩)) : Val w im m (.pointer (some ⟨b, off, none⟩)) (.ptr o off)
 | ep {a : Addr} {cs : List Dat} {off : Nat} (vs : Nat → Value) (hs : a.spot = none) (hi : cs ≠ [] → im a.block)
   (hw : ∀ (j : Nat) (x : Dat), cs[j]? = some x → w.cell? (a.add j) = some (vs j)) (hr : ∀ (j : Nat) (x : Dat), cs[j]? = some x → Rd w im (vs j) x) : Val w im m (.pointer (some (a.add off))) (.ep cs off)
 | row {o n cap : Nat} {a : Option Addr} (h : m o = .slice a n cap) : Val w im m (.slice a n cap) (.row o n)
 | rp {o sz i off b n cap : Nat} (h : m o = .slice (some ⟨b, 0, none⟩) n cap) : Val w im m (.pointer (some ⟨b, i * sz + off, none⟩)) (.rp o sz i off)
 | fn {f : Nat} {us : Array Value} {cs : List AV} (hn : us.size = cs.length) (h : ∀ (i : Nat) (u : Value) (c : AV), us[i]? = some u → cs[i]? = some c → Val w im m u c) : Val w im m (.func (.func f) #[] us) (.fn f cs)
 | tup {us : Array Value} {cs : List AV} (hn : us.size = cs.length) (h : ∀ (i : Nat) (u : Value) (c : AV), us[i]? = some u → cs[i]? = some c → Val w im m u c) : Val w im m (.tuple us) (.tup cs)
 | gd {u : Value} {gs : List Bool} {c : AV} (h : allB gs = true → Val w im m u c) (hn : allB gs = false → u = undef) : Val w im m u (.gd gs c)
 | bad (u : Value) : Val w im m u .bad

def AV.ids : AV → List Nat
 | .d _ | .ep _ _ | .bad => []
 | .ptr o _ | .row o _ | .rp o _ _ _ => [o]
 | .agg cs | .fn _ cs | .tup cs => idsL cs
 | .gd _ c => c.ids
where idsL : List AV → List Nat
 | [] => []
 | c :: cs => c.ids ++ idsL cs
def AObj.ids : AObj → List Nat
 | .cells _ cs => AV.ids.idsL cs
 | .row _ _ _ => []
theorem idsL_mem {c : AV} : ∀ {cs : List AV} {i : Nat}, cs[i]? = some c → ∀ o ∈ c.ids, o ∈ AV.ids.idsL cs
 | d :: cs, 0, h, o, ho => by
  simp only [List.getElem?_cons_zero, Option.some.injEq] at h
  subst h
  exact List.mem_append.2 (.inl ho)
 | d :: cs, i + 1, h, o, ho => by
  simp only [List.getElem?_cons_succ] at h
  exact List.mem_append.2 (.inr (idsL_mem h o ho))
def AV.cell : AV → Bool
 | .agg _ | .tup _ | .gd _ _ | .bad => false
 | _ => true
theorem Val.one {w : World} {im : Nat → Prop} {m : Nat → Value} {u : Value} {c : AV} (h : Val w im m u c) (hc : c.cell = true) : u.oneCell' = true := by
 cases h with
 | d h => cases h <;> first | assumption | rfl
 | agg => cases hc
 | tup => cases hc
 | gd => cases hc
 | bad => cases hc
 | _ => rfl

theorem Rd.mono {w w' : World} {im im' : Nat → Prop} (h : ∀ b, im b → im' b ∧ w'.heap[b]? = w.heap[b]?) {u : Value} {x : Dat} (r : Rd w im u x) : Rd w' im' u x := by
 induction r with
 | v h => exact .v h
 | nil sz => exact .nil sz
 | sl vs hs hl hc hi hz hw hr ih =>
  refine .sl vs hs hl hc (fun hne => (h _ (hi hne)).1) hz (fun i j r x h1 h2 => ?_) (fun i j r x h1 h2 => ih i j r x h1 h2)
  have hne := List.ne_nil_of_mem (List.mem_of_getElem? h1)
  have hb := (h _ (hi hne)).2
  rw [World.cell?_of_block (w := w)]
  ·exact hw i j r x h1 h2
  ·have e : ∀ (a : Addr) n, (a.add n).block = a.block := fun a n => by unfold Addr.add; split <;> rfl
   rw [e]; exact hb
theorem add_block (a : Addr) (n : Nat) : (a.add n).block = a.block := by unfold Addr.add; split <;> rfl
theorem add_add (a : Addr) (hs : a.spot = none) (n k : Nat) : (a.add n).add k = a.add (n + k) := by
 obtain ⟨b, o, s⟩ := a
 subst hs
 by_cases h1 : n = 0 <;> by_cases h2 : k = 0 <;> simp [Addr.add, h1, h2, Nat.add_assoc]
theorem add_spot (a : Addr) (hs : a.spot = none) (n : Nat) : (a.add n).spot = none := by unfold Addr.add; split <;> simp_all
theorem addr_eta (a : Addr) (hs : a.spot = none) (n : Nat) : a.add n = ⟨a.block, a.off + n, none⟩ := by
 obtain ⟨b, o, s⟩ := a
 subst hs
 by_cases h1 : n = 0 <;> simp [Addr.add, h1]
theorem Val.mono {w w' : World} {im im' : Nat → Prop} {m m' : Nat → Value} {u : Value} {c : AV} (h : ∀ b, im b → im' b ∧ w'.heap[b]? = w.heap[b]?) (hm : ∀ o ∈ c.ids, m' o = m o) (r : Val w im m u c) : Val w' im' m' u c := by
 induction r with
 | d r => exact .d (r.mono h)
 | agg hn _ ih => exact .agg hn fun i u c h1 h2 => ih i u c h1 h2 fun o ho => hm o (idsL_mem h2 o ho)
 | ptr e => exact .ptr (by rw [hm _ (by simp [AV.ids])]; exact e)
 | ep vs hs hi hw hr =>
  refine .ep vs hs (fun hne => (h _ (hi hne)).1) (fun j x h1 => ?_) (fun j x h1 => (hr j x h1).mono h)
  have hne := List.ne_nil_of_mem (List.mem_of_getElem? h1)
  rw [World.cell?_of_block (w := w) (by rw [add_block]; exact (h _ (hi hne)).2)]
  exact hw j x h1
 | row e => exact .row (by rw [hm _ (by simp [AV.ids])]; exact e)
 | rp e => exact .rp (by rw [hm _ (by simp [AV.ids])]; exact e)
 | fn hn _ ih => exact .fn hn fun i u c h1 h2 => ih i u c h1 h2 fun o ho => hm o (idsL_mem h2 o ho)
 | tup hn _ ih => exact .tup hn fun i u c h1 h2 => ih i u c h1 h2 fun o ho => hm o (idsL_mem h2 o ho)
 | gd _ hn ih => exact .gd (fun hg => ih hg hm) hn
 | bad u => exact .bad u

abbrev Hp := List (Nat × Option AObj)
def Hp.get (hp : Hp) (o : Nat) : Option AObj := (hp.lookup o).join
def blk : Value → Option Nat
 | .pointer (some a) => some a.block
 | .slice (some a) _ _ => some a.block
 | _ => none

def ObjSat (w : World) (im : Nat → Prop) (m : Nat → Value) (o : Nat) : AObj → Prop
 | .cells e cs => ∃ (b : Nat) (us : Array Value), m o = .pointer (some ⟨b, 0, none⟩) ∧ w.heap[b]? = some (.cells us e (0, 0)) ∧ us.size = cs.length ∧ (∀ (i : Nat) (u : Value) (c : AV), us[i]? = some u → cs[i]? = some c → Val w im m u c) ∧ ∀ c ∈ cs, c.cell = true
 | .row e sz xs => ∃ us : List Value, w.ownsRow 0 e sz (m o) xs.length us ∧ (∀ (i : Nat) (r : List Dat), xs[i]? = some r → r.length = sz) ∧
   ∀ (i j : Nat) (r : List Dat) (x : Dat), xs[i]? = some r → r[j]? = some x → ∃ u, us[i * sz + j]? = some u ∧ Rd w im u x

def tabL : List (Nat × List Value) := []
def TabsAt (w : World) (ok : Nat → Prop) : Prop := ∀ g l, tabL.lookup g = some l → ok g ∧ ∀ i v, l[i]? = some v → v.oneCell' = true ∧ w.cell? ⟨g, i, none⟩ = some v
structure Ctx where
 w0 : World
 own0 : Nat → Prop
 ok : Nat → Prop
 okl : ∀ b, ok b → b < w0.heap.size
 oko : ∀ b, ok b → ¬ own0 b
 pin : Nat → Value
 tab : TabsAt w0 ok

def im (C : Ctx) (m : Nat → Value) (w : World) (hp : Hp) (b : Nat) : Prop :=
 b < w.heap.size ∧ (C.ok b ∨ C.own0 b ∨ C.w0.heap.size ≤ b) ∧ ∀ o obj, hp.get o = some obj → blk (m o) ≠ some b

structure Inv (C : Ctx) (m : Nat → Value) (w : World) (hp : Hp) : Prop where
 os : w.os = C.w0.os
 tape : w.tape = C.w0.tape
 output : w.output = C.w0.output
 size : C.w0.heap.size ≤ w.heap.size
 frame : ∀ b, b < C.w0.heap.size → ¬ C.own0 b → w.heap[b]? = C.w0.heap[b]?
 live : ∀ o obj, hp.get o = some obj → ObjSat w (im C m w hp) m o obj
 sep : ∀ o o' obj obj' b, hp.get o = some obj → hp.get o' = some obj' → o ≠ o' → blk (m o) = some b → blk (m o') ≠ some b
 own : ∀ o obj b, hp.get o = some obj → blk (m o) = some b → C.own0 b ∨ C.w0.heap.size ≤ b
theorem Inv.tab {C : Ctx} {m : Nat → Value} {w : World} {hp : Hp} (I : Inv C m w hp) : TabsAt w (im C m w hp) := fun g l h => by
 obtain ⟨h1, h2⟩ := C.tab g l h
 have hlt := C.okl g h1
 have hno := C.oko g h1
 refine ⟨⟨Nat.lt_of_lt_of_le hlt I.size, .inl h1, fun o obj ho hb => ?_⟩, fun i v hi => ⟨(h2 i v hi).1, ?_⟩⟩
 ·rcases I.own o obj g ho hb with h | h
  ·exact hno h
  ·omega
 ·rw [World.cell?_of_block (w := C.w0) (I.frame g hlt hno)]
  exact (h2 i v hi).2
end Go.Proofs.Ytgbialeahdoelaa.Eng

end

section
namespace Go.Proofs.Ytgbialeahdoelaa.Eng
open Go
set_option linter.unusedVariables false
set_option linter.unusedSimpArgs false

theorem Hp.get_cons (o : Nat) (x : Option AObj) (hp : Hp) (i : Nat) : Hp.get ((o, x) :: hp) i = if i = o then x else Hp.get hp i := by
 by_cases h : i = o
 ·subst h
  simp [Hp.get]
 ·simp [Hp.get, List.lookup_cons, h, beq_eq_false_iff_ne.2 h]
theorem ownsRow.blk_lt {w : World} {e sz : Nat} {v : Value} {n : Nat} {us : List Value} (h : w.ownsRow 0 e sz v n us) (b : Nat) (hb : blk v = some b) : b < w.heap.size := by
 rcases h.2 with ⟨rfl, _⟩ | ⟨g, cap, cur, rfl, _, hg, _⟩
 ·cases hb
 ·cases hb
  exact (Array.getElem?_eq_some_iff.1 hg).1
theorem ObjSat.blk_lt {w : World} {im : Nat → Prop} {m : Nat → Value} {o : Nat} {obj : AObj} (h : ObjSat w im m o obj) (b : Nat) (hb : blk (m o) = some b) : b < w.heap.size := by
 cases obj with
 | cells e cs =>
  obtain ⟨b', us, h1, h2, _⟩ := h
  rw [h1] at hb
  cases hb
  exact (Array.getElem?_eq_some_iff.1 h2).1
 | row e sz xs =>
  obtain ⟨us, h1, _⟩ := h
  exact ownsRow.blk_lt h1 b hb
theorem ObjSat.mono {w w' : World} {im im' : Nat → Prop} {m m' : Nat → Value} {o : Nat} {obj : AObj} (h : ∀ b, im b → im' b ∧ w'.heap[b]? = w.heap[b]?)
  (hb : ∀ b, blk (m o) = some b → w'.heap[b]? = w.heap[b]?) (hm : m' o = m o) (hi : ∀ i ∈ obj.ids, m' i = m i) (r : ObjSat w im m o obj) : ObjSat w' im' m' o obj := by
 cases obj with
 | cells e cs =>
  obtain ⟨b, us, h1, h2, h3, h4, h5⟩ := r
  exact ⟨b, us, by rw [hm, h1], by rw [hb b (by rw [h1]; rfl)]; exact h2, h3, fun i u c q1 q2 => (h4 i u c q1 q2).mono h fun o ho => hi o (idsL_mem q2 o ho), h5⟩
 | row e sz xs =>
  obtain ⟨us, h1, h2, h3⟩ := r
  refine ⟨us, ?_, h2, fun i j r x q1 q2 => ?_⟩
  ·rw [hm]
   refine ⟨h1.1, ?_⟩
   rcases h1.2 with hn | ⟨g, cap, cur, hv, hg, hh, rest⟩
   ·exact .inl hn
   ·exact .inr ⟨g, cap, cur, hv, hg, by rw [hb g (by rw [hv]; rfl)]; exact hh, rest⟩
  ·obtain ⟨u, q3, q4⟩ := h3 i j r x q1 q2
   exact ⟨u, q3, q4.mono h⟩

section
variable {C : Ctx} {m m' : Nat → Value} {w w' : World} {hp hp1 : Hp}
theorem Inv.not_im (I : Inv C m w hp) {o : Nat} {obj : AObj} {b : Nat} (h : hp.get o = some obj) (hb : blk (m o) = some b) : ¬ im C m w hp b := fun h' => h'.2.2 o obj h hb
theorem Inv.put (I : Inv C m w hp) (hsub : ∀ o obj, hp1.get o = some obj → hp.get o = some obj) (d : Nat) (obj : AObj) (hm : ∀ o, o ≠ d → m' o = m o)
  (hfr : m' d = m d ∨ ∀ o obj, hp1.get o = some obj → o ≠ d → d ∉ obj.ids)
  (hos : w'.os = w.os) (htape : w'.tape = w.tape) (hout : w'.output = w.output) (hsz : w.heap.size ≤ w'.heap.size)
  (hk : ∀ k, k < w.heap.size → blk (m' d) ≠ some k → w'.heap[k]? = w.heap[k]?)
  (hb : ∀ b, blk (m' d) = some b → (C.own0 b ∨ C.w0.heap.size ≤ b) ∧ ¬ im C m w hp b ∧ ∀ o obj, hp1.get o = some obj → o ≠ d → blk (m o) ≠ some b)
  (hobj : ∀ im', (∀ b, im C m w hp b → im' b ∧ w'.heap[b]? = w.heap[b]?) → ObjSat w' im' m' d obj) :
  Inv C m' w' ((d, some obj) :: hp1) ∧ (∀ b, im C m w hp b → im C m' w' ((d, some obj) :: hp1) b ∧ w'.heap[b]? = w.heap[b]?) := by
 have gd : ∀ o x, Hp.get ((d, some obj) :: hp1) o = some x → (o = d ∧ x = obj) ∨ (o ≠ d ∧ hp1.get o = some x) := fun o x h => by
  rw [Hp.get_cons] at h
  by_cases e : o = d
  ·rw [if_pos e] at h; exact .inl ⟨e, (Option.some.inj h).symm⟩
  ·rw [if_neg e] at h; exact .inr ⟨e, h⟩
 have hmo : ∀ b, im C m w hp b → im C m' w' ((d, some obj) :: hp1) b ∧ w'.heap[b]? = w.heap[b]? := fun b h => by
  have hne : blk (m' d) ≠ some b := fun e => (hb b e).2.1 h
  refine ⟨⟨Nat.lt_of_lt_of_le h.1 hsz, h.2.1, fun o x ho => ?_⟩, hk b h.1 hne⟩
  rcases gd o x ho with ⟨rfl, _⟩ | ⟨hod, ho'⟩
  ·exact hne
  ·rw [hm o hod]; exact h.2.2 o x (hsub o x ho')
 refine ⟨⟨hos.trans I.os, htape.trans I.tape, hout.trans I.output, Nat.le_trans I.size hsz, fun b h1 h2 => ?_, fun o x ho => ?_, fun o o' x x' b ho ho' hne hbo => ?_, fun o x b ho hbo => ?_⟩, hmo⟩
 ·rw [hk b (Nat.lt_of_lt_of_le h1 I.size) (fun e => by rcases (hb b e).1 with h | h <;> first | exact h2 h | omega)]
  exact I.frame b h1 h2
 ·rcases gd o x ho with ⟨rfl, rfl⟩ | ⟨hod, ho'⟩
  ·exact hobj _ hmo
  ·refine (I.live o x (hsub o x ho')).mono hmo (fun b hb' => ?_) (hm o hod) (fun i hi => ?_)
   ·exact hk b ((I.live o x (hsub o x ho')).blk_lt b hb') (fun e => (hb b e).2.2 o x ho' hod hb')
   ·by_cases e : i = d
    ·subst e
     rcases hfr with h | h
     ·exact h
     ·exact absurd hi (h o x ho' hod)
    ·exact hm i e
 ·rcases gd o x ho with ⟨rfl, _⟩ | ⟨hod, h1⟩ <;> rcases gd o' x' ho' with ⟨rfl, _⟩ | ⟨hod', h2⟩
  ·exact absurd rfl hne
  ·rw [hm o' hod']; exact (hb b hbo).2.2 o' x' h2 hod'
  ·intro e; rw [hm o hod] at hbo; exact (hb b e).2.2 o x h1 hod hbo
  ·rw [hm o hod] at hbo; rw [hm o' hod']; exact I.sep o o' x x' b (hsub o x h1) (hsub o' x' h2) hne hbo
 ·rcases gd o x ho with ⟨rfl, _⟩ | ⟨hod, h1⟩
  ·exact (hb b hbo).1
  ·rw [hm o hod] at hbo; exact I.own o x b (hsub o x h1) hbo
theorem Inv.drop (I : Inv C m w hp) (hsub : ∀ o obj, hp1.get o = some obj → hp.get o = some obj) :
  Inv C m w hp1 ∧ (∀ b, im C m w hp b → im C m w hp1 b ∧ w.heap[b]? = w.heap[b]?) := by
 have hmo : ∀ b, im C m w hp b → im C m w hp1 b ∧ w.heap[b]? = w.heap[b]? := fun b h => ⟨⟨h.1, h.2.1, fun o x ho => h.2.2 o x (hsub o x ho)⟩, rfl⟩
 exact ⟨⟨I.os, I.tape, I.output, I.size, I.frame, fun o x ho => (I.live o x (hsub o x ho)).mono hmo (fun _ _ => rfl) rfl (fun _ _ => rfl), fun o o' x x' b ho ho' => I.sep o o' x x' b (hsub o x ho) (hsub o' x' ho'), fun o x b ho => I.own o x b (hsub o x ho)⟩, hmo⟩
theorem Inv.ext (I : Inv C m w hp) (hos : w'.os = w.os) (htape : w'.tape = w.tape) (hout : w'.output = w.output) (hsz : w.heap.size ≤ w'.heap.size)
  (hk : ∀ k, k < w.heap.size → w'.heap[k]? = w.heap[k]?) : Inv C m w' hp ∧ (∀ b, im C m w hp b → im C m w' hp b ∧ w'.heap[b]? = w.heap[b]?) := by
 have hmo : ∀ b, im C m w hp b → im C m w' hp b ∧ w'.heap[b]? = w.heap[b]? := fun b h => ⟨⟨Nat.lt_of_lt_of_le h.1 hsz, h.2⟩, hk b h.1⟩
 exact ⟨⟨hos.trans I.os, htape.trans I.tape, hout.trans I.output, Nat.le_trans I.size hsz, fun b h1 h2 => (hk b (Nat.lt_of_lt_of_le h1 I.size)).trans (I.frame b h1 h2),
  fun o x ho => (I.live o x ho).mono hmo (fun b hb => hk b ((I.live o x ho).blk_lt b hb)) rfl (fun _ _ => rfl), I.sep, I.own⟩, hmo⟩
theorem Inv.new_blk (I : Inv C m w hp) (hsub : ∀ o obj, hp1.get o = some obj → hp.get o = some obj) (b : Nat) (h : w.heap.size ≤ b) :
  (C.own0 b ∨ C.w0.heap.size ≤ b) ∧ ¬ im C m w hp b ∧ ∀ o obj, hp1.get o = some obj → blk (m o) ≠ some b :=
 ⟨.inr (Nat.le_trans I.size h), fun h' => by have := h'.1; omega, fun o x ho e => by have := (I.live o x (hsub o x ho)).blk_lt b e; omega⟩
end
end Go.Proofs.Ytgbialeahdoelaa.Eng

end

section
namespace Go.Proofs.Ytgbialeahdoelaa.Eng
open Go

inductive TyD where
 | int (k : IntKind) | bool | str | slice (e : Nat) | struct (fs : List (Nat × Nat)) | array (n e : Nat) | ptr (e : Nat) | other
structure Ti where
 d : TyD
 sz : Nat
 by_ : Nat
 z : List Value
def tyd : TypeDesc → TyD
 | .int k => .int k
 | .bool => .bool
 | .string => .str
 | .slice e => .slice e
 | .struct fs => .struct (fs.toList.map fun f => (f.offset, f.type))
 | .array n e => .array n e
 | .pointer e => .ptr e
 | _ => .other
def ti (P : Program) (t : Nat) : Option Ti :=
 match P.info? t, P.underlying t with
 | some i, some d => match i.zero with
  | some z => if z.cells.size = i.size ∧ z.cells.toList.all Value.oneCell' = true then some ⟨tyd d, i.size, i.bytes, z.cells.toList⟩ else none
  | none => none
 | _, _ => none
def TyD.agg : TyD → Bool
 | .struct _ | .array _ _ => true
 | _ => false
theorem ti_info {P : Program} {t : Nat} {T : Ti} (h : ti P t = some T) : ∃ i d z, P.info? t = some i ∧ P.underlying t = some d ∧ tyd d = T.d ∧ i.zero = some z ∧ i.size = T.sz ∧ i.bytes = T.by_ ∧ z.cells.toList = T.z ∧ z.cells.size = T.sz ∧ T.z.all Value.oneCell' = true := by
 unfold ti at h
 split at h
 ·rename_i i d h1 h2
  split at h
  ·rename_i z h3
   split at h
   ·rename_i h4
    cases h
    exact ⟨i, d, z, h1, h2, rfl, h3, rfl, rfl, rfl, h4.1, h4.2⟩
   ·cases h
  ·cases h
 ·cases h
theorem tyd_agg (d : TypeDesc) : (tyd d).agg = (match d with | .struct _ | .array _ _ => true | _ => false) := by cases d <;> rfl
section
variable {P : Program} {t : Nat} {T : Ti} {w : World}
theorem run_sizeOf (h : ti P t = some T) : (sizeOf t).run P w = .ok T.sz w := by
 obtain ⟨i, d, z, h1, h2, h3, h4, h5, _⟩ := ti_info h
 simp [sizeOf, typeInfo, h1, h5]
theorem run_isAgg (h : ti P t = some T) : (isAgg t).run P w = .ok T.d.agg w := by
 obtain ⟨i, d, z, h1, h2, h3, h4, h5, _⟩ := ti_info h
 rw [← h3, tyd_agg]
 unfold isAgg
 rw [Sem.run_bind, run_underlying h2 w]
 cases d <;> rfl
theorem run_zero (h : ti P t = some T) : ∃ z : Value, (zeroValue t).run P w = .ok z w ∧ z.cells.toList = T.z := by
 obtain ⟨i, d, z, h1, h2, h3, h4, h5, _, h6, _⟩ := ti_info h
 exact ⟨z, by simp [zeroValue, typeInfo, h1, h4], h6⟩
end

structure Eff where
 sc : Prop
 val : AV
 up : Hp := []
 new : Bool := false
def Fr (hp : Hp) (d : Nat) : Prop := ∀ o obj, hp.get o = some obj → o ≠ d ∧ d ∉ obj.ids
def Ok (C : Ctx) (m : Nat → Value) (w : World) (hp : Hp) (d : Nat) (e : Eff) (r : Result Value) : Prop :=
 ∃ v w' m', r = .ok v w' ∧ (∀ o, (e.new = true → o ≠ d) → m' o = m o) ∧ Inv C m' w' (e.up ++ hp) ∧ Val w' (im C m' w' (e.up ++ hp)) m' v e.val ∧
  ∀ b, im C m w hp b → im C m' w' (e.up ++ hp) b ∧ w'.heap[b]? = w.heap[b]?
def OkU (C : Ctx) (m : Nat → Value) (w : World) (hp : Hp) (e : Eff) (r : Result Unit) : Prop :=
 ∃ w', r = .ok () w' ∧ Inv C m w' (e.up ++ hp) ∧ ∀ b, im C m w hp b → im C m w' (e.up ++ hp) b ∧ w'.heap[b]? = w.heap[b]?

def AV.cells : AV → List AV
 | .agg cs => cs
 | c => [c]
def allCell (l : List AV) : Bool := l.all AV.cell
section
variable {P : Program} {C : Ctx} {m : Nat → Value} {w : World} {hp : Hp} {d : Nat} {sc : Prop}
theorem Ok.same (I : Inv C m w hp) {v : Value} {c : AV} {nw : Bool} (h : Val w (im C m w hp) m v c) : Ok C m w hp d ⟨sc, c, [], nw⟩ (.ok v w) :=
 ⟨v, w, m, rfl, fun _ _ => rfl, I, h, fun _ h => ⟨h, rfl⟩⟩
theorem Val.cells {im : Nat → Prop} {u : Value} {c : AV} (h : Val w im m u c) (hc : allCell c.cells = true) :
  u.cells.size = c.cells.length ∧ (∀ (i : Nat) (u' : Value) (c' : AV), u.cells[i]? = some u' → c.cells[i]? = some c' → Val w im m u' c') ∧ ∀ u' ∈ u.cells.toList, u'.oneCell' = true := by
 have one : c.cell = true → u.cells = #[u] ∧ c.cells = [c] := fun hc => by
  have h1 := h.one hc
  refine ⟨?_, ?_⟩
  ·cases u <;> first | rfl | cases h1
  ·cases c <;> first | rfl | cases hc
 by_cases hcc : c.cell = true
 ·obtain ⟨e1, e2⟩ := one hcc
  rw [e1, e2]
  refine ⟨rfl, fun i u' c' h1 h2 => ?_, fun u' hu => ?_⟩
  ·cases i with
   | zero => cases h1; cases h2; exact h
   | succ i => simp at h2
  ·simp only [List.mem_singleton] at hu
   subst hu
   exact h.one hcc
 ·cases h with
  | @agg us cs hn h =>
   refine ⟨hn, h, fun u' hu => ?_⟩
   replace hu : u' ∈ us.toList := hu
   obtain ⟨i, hi, e⟩ := List.getElem_of_mem hu
   have hi' : i < (AV.cells (.agg cs)).length := by rw [AV.cells, ← hn]; simpa using hi
   have h3 := h i u' _ (by rw [← e]; simp) (List.getElem?_eq_getElem hi')
   exact h3.one (List.all_eq_true.1 hc _ (List.getElem_mem hi'))
  | tup => simp [allCell, AV.cells, AV.cell] at hc
  | gd => simp [allCell, AV.cells, AV.cell] at hc
  | bad => simp [allCell, AV.cells, AV.cell] at hc
  | _ => exact absurd rfl hcc
theorem Ok.alloc (I : Inv C m w hp) (hf : Fr hp d) {us : Array Value} {cs : List AV} {e : TypeId} (hn : us.size = cs.length)
  (hv : ∀ (i : Nat) (u : Value) (c : AV), us[i]? = some u → cs[i]? = some c → Val w (im C m w hp) m u c) (hc : allCell cs = true) (hd : d ∉ AV.ids.idsL cs) :
  Ok C m w hp d ⟨sc, .ptr d 0, [(d, some (.cells e cs))], true⟩ (.ok (.pointer (some ⟨w.heap.size, 0, none⟩)) (w.alloc (.cells us e))) := by
 let m' : Nat → Value := fun o => if o = d then .pointer (some ⟨w.heap.size, 0, none⟩) else m o
 have md : m' d = .pointer (some ⟨w.heap.size, 0, none⟩) := if_pos rfl
 have mo : ∀ o, o ≠ d → m' o = m o := fun o h => if_neg h
 have hids : ∀ {i : Nat} {c : AV}, cs[i]? = some c → ∀ o ∈ c.ids, m' o = m o := fun h o ho => mo o fun e => hd (e ▸ idsL_mem h o ho)
 obtain ⟨I', k⟩ := I.put (m' := m') (w' := w.alloc (.cells us e)) (hp1 := hp) (fun _ _ h => h) d (.cells e cs) mo (.inr fun o x h _ => (hf o x h).2) rfl rfl rfl (by simp)
  (fun k hk _ => heap_alloc_old w _ k hk)
  (fun b hb => by
   rw [md] at hb
   cases hb
   obtain ⟨h1, h2, h3⟩ := I.new_blk (hp1 := hp) (fun _ _ h => h) w.heap.size (Nat.le_refl _)
   exact ⟨h1, h2, fun o x ho _ => h3 o x ho⟩)
  (fun im' h => ⟨w.heap.size, us, md, heap_alloc_new w _, hn, fun i u c h1 h2 => (hv i u c h1 h2).mono h (hids h2), fun c hcm => List.all_eq_true.1 hc c hcm⟩)
 exact ⟨_, _, m', rfl, fun o ho => mo o (ho rfl), I', .ptr md, k⟩

def seg {α : Type} (f : Nat → α) : Nat → Nat → List α
 | _, 0 => []
 | off, n + 1 => f off :: seg f (off + 1) n
theorem seg_length {α : Type} (f : Nat → α) : ∀ n off, (seg f off n).length = n
 | 0, _ => rfl
 | n + 1, off => by simp [seg, seg_length f n]
theorem seg_get {α : Type} (f : Nat → α) : ∀ n off i, i < n → (seg f off n)[i]? = some (f (off + i))
 | 0, _, _, h => by omega
 | n + 1, off, 0, _ => by simp [seg]
 | n + 1, off, i + 1, h => by
  simp only [seg, List.getElem?_cons_succ]
  rw [seg_get f n (off + 1) i (by omega), Nat.add_assoc, Nat.add_comm 1]
def effLoad (P : Program) (h : Nat → Option AObj) (t : Nat) : AV → Option Eff
 | .ptr o off => match ti P t, h o with
  | some T, some (.cells _ cs) => if T.d.agg then (if off + T.sz ≤ cs.length then some { sc := True, val := .agg (seg (fun j => cs.getD j .bad) off T.sz) } else none) else if off < cs.length then some { sc := True, val := cs.getD off .bad } else none
  | _, _ => none
 | .ep cs off => match ti P t with
  | some T => if T.d.agg then some { sc := off + T.sz ≤ cs.length, val := .agg (seg (fun j => .d (cs.getD j default)) off T.sz) } else some { sc := off < cs.length, val := .d (cs.getD off default) }
  | _ => none
 | .rp o sz i off => match ti P t, h o with
  | some T, some (.row _ s xs) => if s = sz then (if T.d.agg then some { sc := i < xs.length ∧ off + T.sz ≤ sz, val := .agg (seg (fun j => .d ((xs.getD i []).getD j default)) off T.sz) } else some { sc := i < xs.length ∧ off < sz, val := .d ((xs.getD i []).getD off default) }) else none
  | _, _ => none
 | _ => none
theorem load_cells {t : Nat} {T : Ti} (hT : ti P t = some T) {a : Addr} {us : Nat → Value} (n : Nat) (hn : T.d.agg = true → T.sz ≤ n) (hn1 : T.d.agg = false → 0 < n)
  (hc : ∀ j, j < n → w.cell? (a.add j) = some (us j)) :
  (Instr.loadAt t (.pointer (some a))).run P w = .ok (if T.d.agg then .agg ((List.range T.sz).map us).toArray else us 0) w := by
 simp only [Instr.loadAt, Instr.sureAddr, Sem.run_bind, Sem.run_pure, Result.andThen_ok, loadVar, run_isAgg hT]
 by_cases ha : T.d.agg = true
 ·simp only [ha, if_true, Sem.run_bind, run_sizeOf hT, Result.andThen_ok]
  have hl := run_loadCells_list (P := P) w a ((List.range T.sz).map us) (fun j v hj => by
   rw [List.getElem?_map] at hj
   by_cases hlt : j < T.sz
   ·rw [List.getElem?_range hlt] at hj
    simp only [Option.map_some, Option.some.injEq] at hj
    rw [← hj]
    exact hc j (Nat.lt_of_lt_of_le hlt (hn ha))
   ·rw [List.getElem?_eq_none (by simpa using hlt)] at hj
    cases hj)
  simp only [List.length_map, List.length_range] at hl
  rw [hl]
  rfl
 ·have ha' : T.d.agg = false := by simpa using ha
  simp only [ha', Bool.false_eq_true, if_false]
  have h0 := hc 0 (hn1 ha')
  have e : a.add 0 = a := by simp [Addr.add]
  rw [e] at h0
  rw [run_load, h0]
theorem getD_some {α : Type} {l : List α} {i : Nat} {x d : α} (h : l[i]? = some x) : l.getD i d = x := by simp [h]
theorem get_getD {α : Type} {l : List α} {i : Nat} (d : α) (h : i < l.length) : l[i]? = some (l.getD i d) := by simp [h]
theorem effLoad_ok (I : Inv C m w hp) {t : Nat} {c : AV} {u : Value} {e : Eff} (he : effLoad P hp.get t c = some e) (hs : e.sc) (hv : Val w (im C m w hp) m u c) : Ok C m w hp d e ((Instr.loadAt t u).run P w) := by
 cases hv with
 | @ptr o off b hm =>
  simp only [effLoad] at he
  split at he
  ·rename_i T ety cs hT ho
   obtain ⟨b', us, h1, h2, h3, h4, h5⟩ := I.live o _ ho
   rw [hm] at h1
   cases h1
   have hcell : ∀ j, j < us.size → w.cell? ⟨b, j, none⟩ = some (us.getD j default) := fun j hj => by
    simp [World.cell?, h2, hj]
   have hval : ∀ j, j < cs.length → Val w (im C m w hp) m (us.getD j default) (cs.getD j .bad) := fun j hj => h4 j _ _ (by simp [h3, hj]) (get_getD _ hj)
   have hload := fun n (hn : off + n ≤ cs.length) => load_cells (P := P) (w := w) hT (a := ⟨b, off, none⟩) (us := fun j => us.getD (off + j) default) n
   split at he
   ·rename_i ha
    split at he
    ·rename_i hle
     cases he
     rw [hload T.sz hle (fun _ => Nat.le_refl _) (fun e => by rw [ha] at e; cases e) (fun j hj => by rw [addr_eta _ rfl]; exact hcell (off + j) (by omega)), if_pos ha]
     refine Ok.same I (.agg (by simp [seg_length]) fun i u c h6 h7 => ?_)
     have hi : i < T.sz := by have := (List.getElem?_eq_some_iff.1 h7).1; rwa [seg_length] at this
     rw [seg_get _ _ _ _ hi] at h7
     simp [hi] at h6
     cases h7
     rw [← h6]
     have := hval (off + i) (by omega)
     simpa using this
    ·cases he
   ·rename_i ha
    split at he
    ·rename_i hlt
     cases he
     rw [hload 1 hlt (fun e => absurd e ha) (fun _ => Nat.one_pos) (fun j hj => by rw [addr_eta _ rfl]; exact hcell (off + j) (by omega)), if_neg ha]
     exact Ok.same I (hval off hlt)
    ·cases he
  ·cases he
 | @ep a cs off vs hs' hi hw hr =>
  simp only [effLoad] at he
  split at he
  ·rename_i T hT
   have hload := fun n (hn : off + n ≤ cs.length) => load_cells (P := P) (w := w) hT (a := a.add off) (us := fun j => vs (off + j)) n
   have hval : ∀ j, j < cs.length → Val w (im C m w hp) m (vs j) (.d (cs.getD j default)) := fun j hj => .d (hr j _ (get_getD _ hj))
   split at he
   ·rename_i ha
    cases he
    rw [hload T.sz hs (fun _ => Nat.le_refl _) (fun e => by rw [ha] at e; cases e) (fun j hj => by rw [add_add a hs']; exact hw _ _ (get_getD default (by have := hs; simp only at this; omega))), if_pos ha]
    refine Ok.same I (.agg (by simp [seg_length]) fun i u c h6 h7 => ?_)
    have hi : i < T.sz := by have := (List.getElem?_eq_some_iff.1 h7).1; rwa [seg_length] at this
    rw [seg_get _ _ _ _ hi] at h7
    simp [hi] at h6
    cases h7
    rw [← h6]
    exact hval (off + i) (by have := hs; simp only at this; omega)
   ·rename_i ha
    cases he
    rw [hload 1 hs (fun e => absurd e ha) (fun _ => Nat.one_pos) (fun j hj => by rw [add_add a hs']; exact hw _ _ (get_getD default (by have := hs; simp only at this; omega))), if_neg ha]
    exact Ok.same I (hval off hs)
  ·cases he
 | @rp o sz i off b n cap hm =>
  simp only [effLoad] at he
  split at he
  ·rename_i T e0 s xs hT ho
   split at he
   ·rename_i hsz
    subst hsz
    obtain ⟨us, h1, h2, h3⟩ := I.live o _ ho
    rw [hm] at h1
    rcases h1.2 with ⟨hn, _⟩ | ⟨g, cp, cur, hg, _, hh, _, _, _, htk⟩
    ·cases hn
    cases hg
    have hcell : ∀ j u, us[j]? = some u → w.cell? ⟨b, j, none⟩ = some u := fun j u hu => by
     rw [← htk, List.getElem?_take] at hu
     split at hu
     ·simp only [World.cell?, hh]; simpa using hu
     ·cases hu
    have hrow : ∀ j, i < xs.length → j < s → ∃ u, w.cell? ⟨b, i * s + j, none⟩ = some u ∧ Rd w (im C m w hp) u ((xs.getD i []).getD j default) := fun j hi hj => by
     have hr := get_getD [] hi
     have hl := h2 i _ hr
     obtain ⟨u, q1, q2⟩ := h3 i j _ _ hr (get_getD default (by omega))
     exact ⟨u, hcell _ _ q1, q2⟩
    have hload := fun n (us : Nat → Value) => load_cells (P := P) (w := w) hT (a := ⟨b, i * s + off, none⟩) (us := us) n
    have pick : i < xs.length → ∃ us : Nat → Value, ∀ j, off + j < s → w.cell? ((⟨b, i * s + off, none⟩ : Addr).add j) = some (us j) ∧ Rd w (im C m w hp) (us j) ((xs.getD i []).getD (off + j) default) := fun hi => by
     have : ∀ j, ∃ u, off + j < s → w.cell? ((⟨b, i * s + off, none⟩ : Addr).add j) = some u ∧ Rd w (im C m w hp) u ((xs.getD i []).getD (off + j) default) := fun j => by
      by_cases hj : off + j < s
      ·obtain ⟨u, q1, q2⟩ := hrow (off + j) hi hj
       refine ⟨u, fun _ => ⟨?_, q2⟩⟩
       rw [addr_eta _ rfl]
       rw [← Nat.add_assoc] at q1
       exact q1
      ·exact ⟨default, fun h => absurd h hj⟩
     exact ⟨fun j => (this j).choose, fun j => (this j).choose_spec⟩
    split at he
    ·rename_i ha
     cases he
     obtain ⟨hi, hle⟩ := hs
     obtain ⟨us, hus⟩ := pick hi
     rw [hload T.sz us (fun _ => Nat.le_refl _) (fun e => by rw [ha] at e; cases e) (fun j hj => (hus j (by omega)).1), if_pos ha]
     refine Ok.same I (.agg (by simp [seg_length]) fun k u c h6 h7 => ?_)
     have hk : k < T.sz := by have := (List.getElem?_eq_some_iff.1 h7).1; rwa [seg_length] at this
     rw [seg_get _ _ _ _ hk] at h7
     simp [hk] at h6
     cases h7
     rw [← h6]
     exact .d (hus k (by omega)).2
    ·rename_i ha
     cases he
     obtain ⟨hi, hlt⟩ := hs
     obtain ⟨us, hus⟩ := pick hi
     rw [hload 1 us (fun e => absurd e ha) (fun _ => Nat.one_pos) (fun j hj => (hus j (by omega)).1), if_neg ha]
     exact Ok.same I (.d (hus 0 (by omega)).2)
   ·cases he
  ·cases he
 | _ => simp [effLoad] at he
end
end Go.Proofs.Ytgbialeahdoelaa.Eng

end

section
namespace Go.Proofs.Ytgbialeahdoelaa.Eng
open Go
set_option linter.unusedVariables false
set_option linter.unusedSimpArgs false
def drops (l : List Nat) : Hp := l.map fun o => (o, none)
theorem drops_get (l : List Nat) (hp : Hp) (o : Nat) : Hp.get (drops l ++ hp) o = if o ∈ l then none else Hp.get hp o := by
 induction l with
 | nil => simp [drops]
 | cons a l ih =>
  show Hp.get ((a, none) :: (drops l ++ hp)) o = _
  rw [Hp.get_cons, ih]
  by_cases h : o = a <;> simp [h]
theorem drops_sub (l : List Nat) (hp : Hp) : ∀ o obj, Hp.get (drops l ++ hp) o = some obj → hp.get o = some obj := fun o obj h => by
 rw [drops_get] at h
 split at h
 ·cases h
 ·exact h
def toD (h : Nat → Option AObj) : AV → Option (Dat × List Nat)
 | .d x => some (x, [])
 | .row o _ => match h o with
  | some (.row _ sz xs) => some (.sl sz xs, [o])
  | _ => none
 | _ => none
def toDs (h : Nat → Option AObj) : List AV → Option (List Dat × List Nat)
 | [] => some ([], [])
 | c :: cs => match toD h c, toDs h cs with
  | some (x, l), some (xs, k) => some (x :: xs, l ++ k)
  | _, _ => none
section
variable {P : Program} {C : Ctx} {m : Nat → Value} {w : World} {hp : Hp} {d : Nat} {sc : Prop}
theorem row_rd (I : Inv C m w hp) {o e sz : Nat} {xs : List (List Dat)} (ho : hp.get o = some (.row e sz xs)) {hp1 : Hp} (hsub : ∀ o obj, hp1.get o = some obj → hp.get o = some obj) (hno : hp1.get o = none) : Rd w (im C m w hp1) (m o) (.sl sz xs) := by
 obtain ⟨us, h1, h2, h3⟩ := I.live o _ ho
 have k := (I.drop hsub).2
 rcases h1.2 with ⟨hn, h0⟩ | ⟨g, cap, cur, hv, _, hh, hle, _, hcs, htk⟩
 ·rw [hn, List.eq_nil_of_length_eq_zero h0]; exact .nil sz
 ·rw [hv]
  have hg : blk (m o) = some g := by rw [hv]; rfl
  have hcell : ∀ j u, us[j]? = some u → w.cell? ((⟨g, 0, none⟩ : Addr).add j) = some u := fun j u hu => by
   rw [addr_eta _ rfl, ← htk, List.getElem?_take] at *
   split at hu
   ·simp only [World.cell?, hh, Nat.zero_add]; simpa using hu
   ·cases hu
  refine .sl (fun i j => us.getD (i * sz + j) default) (fun _ => rfl) rfl hle (fun _ => ⟨(Array.getElem?_eq_some_iff.1 hh).1, ?_, fun o' x ho' e => ?_⟩) h2 (fun i j r x q1 q2 => ?_) (fun i j r x q1 q2 => ?_)
  ·rcases I.own o _ g ho hg with h | h <;> simp [h]
  ·have hne : o ≠ o' := fun q => by subst q; rw [hno] at ho'; cases ho'
   exact I.sep o o' _ x g ho (hsub o' x ho') hne hg e
  ·obtain ⟨u, q3, _⟩ := h3 i j r x q1 q2
   rw [getD_some q3]; exact hcell _ _ q3
  ·obtain ⟨u, q3, q4⟩ := h3 i j r x q1 q2
   rw [getD_some q3]; exact q4.mono k
theorem toD_rd (I : Inv C m w hp) {c : AV} {u : Value} {x : Dat} {l : List Nat} (h : toD hp.get c = some (x, l)) (hv : Val w (im C m w hp) m u c) {hp1 : Hp} (hsub : ∀ o obj, hp1.get o = some obj → hp.get o = some obj)
  (hl : ∀ o ∈ l, hp1.get o = none) : Rd w (im C m w hp1) u x := by
 cases hv with
 | d r => cases h; exact r.mono (I.drop hsub).2
 | @row o n cap a hm =>
  simp only [toD] at h
  split at h
  ·rename_i e sz xs ho
   cases h
   rw [← hm]
   exact row_rd I ho hsub (hl o (by simp))
  ·cases h
 | _ => simp [toD] at h
theorem toDs_length {h : Nat → Option AObj} : ∀ {cs : List AV} {xs : List Dat} {l : List Nat}, toDs h cs = some (xs, l) → xs.length = cs.length
 | [], _, _, e => by cases e; rfl
 | c :: cs, xs, l, e => by
  simp only [toDs] at e
  split at e
  ·rename_i x l1 xs1 k h1 h2
   cases e
   simp [toDs_length h2]
  ·cases e
theorem toDs_get {h : Nat → Option AObj} : ∀ {cs : List AV} {xs : List Dat} {l : List Nat}, toDs h cs = some (xs, l) → ∀ (i : Nat) (x : Dat), xs[i]? = some x → ∃ c l1, cs[i]? = some c ∧ toD h c = some (x, l1) ∧ ∀ o ∈ l1, o ∈ l
 | [], _, _, e, i, x, hx => by cases e; simp at hx
 | c :: cs, xs, l, e, i, x, hx => by
  simp only [toDs] at e
  split at e
  ·rename_i x1 l1 xs1 k h1 h2
   cases e
   cases i with
   | zero => simp only [List.getElem?_cons_zero, Option.some.injEq] at hx; subst hx; exact ⟨c, l1, rfl, h1, fun o ho => List.mem_append.2 (.inl ho)⟩
   | succ i =>
    obtain ⟨c', l', q1, q2, q3⟩ := toDs_get h2 i x (by simpa using hx)
    exact ⟨c', l', by simpa using q1, q2, fun o ho => List.mem_append.2 (.inr (q3 o ho))⟩
  ·cases e
theorem toD_one (I : Inv C m w hp) {c : AV} {x : Dat} {l : List Nat} (h : toD hp.get c = some (x, l)) : c.cell = true := by
 cases c <;> simp_all [toD, AV.cell]

def put {α : Type} (l : List α) (off : Nat) (ys : List α) : List α := l.take off ++ ys ++ l.drop (off + ys.length)
theorem put_length {α : Type} {l : List α} {off : Nat} {ys : List α} (h : off + ys.length ≤ l.length) : (put l off ys).length = l.length := by
 simp only [put, List.length_append, List.length_take, List.length_drop]; omega
theorem put_get {α : Type} {l : List α} {off : Nat} {ys : List α} (h : off + ys.length ≤ l.length) (i : Nat) : (put l off ys)[i]? = if off ≤ i ∧ i < off + ys.length then ys[i - off]? else l[i]? := by
 have ht : (l.take off).length = off := by rw [List.length_take]; omega
 unfold put
 by_cases h1 : i < off
 ·rw [if_neg (by omega), List.append_assoc, List.getElem?_append_left (by omega), List.getElem?_take, if_pos h1]
 ·by_cases h2 : i < off + ys.length
  ·rw [if_pos ⟨by omega, h2⟩, List.append_assoc, List.getElem?_append_right (by omega), ht, List.getElem?_append_left (by omega)]
  ·rw [if_neg (by omega), List.getElem?_append_right (by rw [List.length_append]; omega), List.length_append, ht, List.getElem?_drop]
   congr 1; omega
def effStore (P : Program) (h : Nat → Option AObj) (t : Nat) : AV → AV → Option Eff
 | .ptr o off, x => match ti P t, h o with
  | some T, some (.cells ety cs) => if x.cells.length = T.sz ∧ off + x.cells.length ≤ cs.length ∧ allCell x.cells = true then some { sc := True, val := .bad, up := [(o, some (.cells ety (put cs off x.cells)))] } else none
  | _, _ => none
 | .rp o sz i off, x => match ti P t, h o, toDs h x.cells with
  | some T, some (.row e s xs), some (ys, l) => if s = sz ∧ ys.length = T.sz ∧ o ∉ l then
    some { sc := i < xs.length ∧ off + ys.length ≤ sz, val := .bad, up := (o, some (.row e sz (xs.set i (if off = 0 ∧ ys.length = sz then ys else put (xs.getD i []) off ys)))) :: drops l } else none
  | _, _, _ => none
 | _, _ => none
theorem run_store_row {t : Nat} {T : Ti} (hT : ti P t = some T) {b off : Nat} {us : Array Value} {e : TypeId} {u : Value} (hb : w.heap[b]? = some (.cells us e (0, 0))) (hn : u.cells.size = T.sz) (hle : off + u.cells.size ≤ us.size)
  (h1 : ∀ v ∈ u.cells.toList, v.oneCell' = true) : (Instr.storeAt t (.pointer (some ⟨b, off, none⟩)) u).run P w = .ok () (w.setRow b (put us.toList off u.cells.toList).toArray) := by
 have h := run_storeCells_at P b off e u.cells.toList 0 us w hb (by simpa using hle) h1
 simp only [Instr.storeAt, Instr.sureAddr, Sem.run_bind, Sem.run_pure, Result.andThen_ok, storeVar, run_sizeOf hT, hn, ne_eq, not_true_eq_false, if_false, put]
 simpa [stuck] using h
theorem effStore_ok (I : Inv C m w hp) {t : Nat} {a x : AV} {ua u : Value} {e : Eff} (he : effStore P hp.get t a x = some e) (hs : e.sc) (hva : Val w (im C m w hp) m ua a) (hv : Val w (im C m w hp) m u x) :
  OkU C m w hp e ((Instr.storeAt t ua u).run P w) := by
 cases hva with
 | @ptr o off b hm =>
  simp only [effStore] at he
  split at he
  ·rename_i T ety cs hT ho
   split at he
   ·rename_i hc
    obtain ⟨hc1, hc2, hc3⟩ := hc
    cases he
    obtain ⟨b', us, h1, h2, h3, h4, h5⟩ := I.live o _ ho
    rw [hm] at h1
    cases h1
    obtain ⟨g1, g2, g3⟩ := hv.cells hc3
    have hle : off + u.cells.toList.length ≤ us.toList.length := by simp; omega
    rw [run_store_row hT h2 (by omega) (by omega) g3]
    obtain ⟨I', k⟩ := I.put (m' := m) (w' := w.setRow b (put us.toList off u.cells.toList).toArray) (hp1 := hp) (fun _ _ h => h) o (.cells ety (put cs off x.cells)) (fun _ _ => rfl) (.inl rfl) rfl rfl rfl (by simp)
     (fun k _ hk => setRow_other w b k _ (fun e => hk (by rw [hm, e]; rfl)))
     (fun b' hb' => by
      rw [hm] at hb'
      cases hb'
      exact ⟨I.own o _ b ho (by rw [hm]; rfl), I.not_im ho (by rw [hm]; rfl), fun o' x' ho' hne e => I.sep o o' _ x' b ho ho' (fun q => hne q.symm) (by rw [hm]; rfl) e⟩)
     (fun im' hk => by
      refine ⟨b, _, hm, setRow_heap w b us _ ety _ h2, by rw [List.size_toArray, put_length hle, put_length hc2]; simpa using h3, fun i u' c q1 q2 => ?_, fun c hc => ?_⟩
      ·rw [List.getElem?_toArray, put_get hle] at q1
       rw [put_get hc2] at q2
       rw [Array.length_toList, g1] at q1
       split at q1
       ·rename_i hi
        rw [if_pos hi] at q2
        exact (g2 _ _ _ (by simpa using q1) q2).mono hk (fun _ _ => rfl)
       ·rename_i hi
        rw [if_neg hi] at q2
        exact (h4 i _ _ (by simpa using q1) q2).mono hk (fun _ _ => rfl)
      ·obtain ⟨i, hi, e⟩ := List.getElem_of_mem hc
       have q := List.getElem?_eq_getElem hi
       rw [e, put_get hc2] at q
       split at q
       ·exact List.all_eq_true.1 hc3 c (List.mem_of_getElem? q)
       ·exact h5 c (List.mem_of_getElem? q))
    exact ⟨_, rfl, I', k⟩
   ·cases he
  ·cases he
 | @rp o sz i off b n cap hm =>
  simp only [effStore] at he
  split at he
  ·rename_i T e0 s xs ys l hT ho hD
   split at he
   ·rename_i hc
    obtain ⟨rfl, hc1, hc2⟩ := hc
    cases he
    obtain ⟨hi, hle0⟩ := hs
    obtain ⟨us, h1, h2, h3⟩ := I.live o _ ho
    rw [hm] at h1
    obtain ⟨hul, h1⟩ := h1
    rcases h1 with ⟨hn, _⟩ | ⟨g, cp, cur, hg, _, hh, hcl, hcm, hcs, htk⟩
    ·cases hn
    cases hg
    have hlen := toDs_length hD
    have hcell : allCell x.cells = true := List.all_eq_true.2 fun c hc => by
     obtain ⟨j, hj, e⟩ := List.getElem_of_mem hc
     obtain ⟨c', l1, q1, q2, _⟩ := toDs_get hD j _ (get_getD default (by omega))
     rw [List.getElem?_eq_getElem hj, e] at q1
     cases q1
     exact toD_one I q2
    obtain ⟨g1, g2, g3⟩ := hv.cells hcell
    have hmul : (i + 1) * s ≤ xs.length * s := Nat.mul_le_mul_right _ hi
    have hmul2 : xs.length * s ≤ cap * s := Nat.mul_le_mul_right _ hcl
    rw [Nat.add_mul, Nat.one_mul] at hmul
    have hle : i * s + off + u.cells.toList.length ≤ cur.toList.length := by rw [Array.length_toList, Array.length_toList, hcs, g1, ← hlen]; omega
    have hgl : u.cells.toList.length = ys.length := by rw [Array.length_toList, g1, hlen]
    rw [run_store_row hT hh (by rw [g1, ← hlen, hc1]) (by simpa using hle) g3]
    have hri := get_getD [] hi
    have hrl := h2 i _ hri
    have hnew : (if off = 0 ∧ ys.length = s then ys else put (xs.getD i []) off ys) = put (xs.getD i []) off ys := by
     split
     ·rename_i hq
      obtain ⟨rfl, hq⟩ := hq
      simp only [put, List.take_zero, List.nil_append, Nat.zero_add, hq]
      rw [List.drop_eq_nil_of_le (by omega), List.append_nil]
     ·rfl
    rw [hnew]
    have hpl : (put (xs.getD i []) off ys).length = s := by rw [put_length (by omega)]; exact hrl
    have hsub := drops_sub l hp
    obtain ⟨I1, k1⟩ := I.drop hsub
    have ho1 : Hp.get (drops l ++ hp) o = some (.row e0 s xs) := by rw [drops_get, if_neg hc2]; exact ho
    obtain ⟨I', k⟩ := I1.put (m' := m) (w' := w.setRow b (put cur.toList (i * s + off) u.cells.toList).toArray) (hp1 := drops l ++ hp) (fun _ _ h => h) o (.row e0 s (xs.set i (put (xs.getD i []) off ys))) (fun _ _ => rfl) (.inl rfl) rfl rfl rfl (by simp)
     (fun k _ hk => setRow_other w b k _ (fun e => hk (by rw [hm, e]; rfl)))
     (fun b' hb' => by
      rw [hm] at hb'
      cases hb'
      exact ⟨I.own o _ b ho (by rw [hm]; rfl), I1.not_im ho1 (by rw [hm]; rfl), fun o' x' ho' hne e => I1.sep o o' _ x' b ho1 ho' (fun q => hne q.symm) (by rw [hm]; rfl) e⟩)
     (fun im' hk => by
      have hsz : (put cur.toList (i * s + off) u.cells.toList).length = cap * s := by rw [put_length hle, Array.length_toList, hcs]
      have hrow : ∀ k r, (xs.set i (put (xs.getD i []) off ys))[k]? = some r → k < xs.length ∧ r.length = s ∧ ((k = i ∧ r = put (xs.getD i []) off ys) ∨ (k ≠ i ∧ xs[k]? = some r)) := fun k r hk => by
       rw [List.getElem?_set] at hk
       by_cases e : i = k
       ·rw [if_pos e, if_pos hi] at hk
        cases hk
        exact ⟨e ▸ hi, hpl, .inl ⟨e.symm, rfl⟩⟩
       ·rw [if_neg e] at hk
        exact ⟨(List.getElem?_eq_some_iff.1 hk).1, h2 k r hk, .inr ⟨fun q => e q.symm, hk⟩⟩
      have old : ∀ k j r x, xs[k]? = some r → r[j]? = some x → ∃ u', cur.toList[k * s + j]? = some u' ∧ Rd w (im C m w hp) u' x := fun k j r x q1 q2 => by
       obtain ⟨u', q3, q4⟩ := h3 k j r x q1 q2
       rw [← htk, List.getElem?_take] at q3
       split at q3
       ·exact ⟨u', q3, q4⟩
       ·cases q3
      refine ⟨(put cur.toList (i * s + off) u.cells.toList).take (xs.length * s), ⟨by rw [List.length_take, hsz, List.length_set]; omega, .inr ⟨b, cap, _, by rw [hm, List.length_set], Nat.zero_le _, setRow_heap w b cur _ e0 _ hh, by rw [List.length_set]; exact hcl, hcm, by rw [List.size_toArray, hsz], by rw [List.length_set]⟩⟩, fun k r hk => (hrow k r hk).2.1, fun k j r x q1 q2 => ?_⟩
      obtain ⟨hkl, hrl', hcase⟩ := hrow k r q1
      have hj : j < s := by have := (List.getElem?_eq_some_iff.1 q2).1; omega
      have hks : (k + 1) * s ≤ xs.length * s := Nat.mul_le_mul_right _ hkl
      rw [Nat.add_mul, Nat.one_mul] at hks
      rw [List.getElem?_take, if_pos (by omega), put_get hle]
      rcases hcase with ⟨rfl, rfl⟩ | ⟨hne, hx⟩
      ·rw [put_get (by omega)] at q2
       by_cases hin : off ≤ j ∧ j < off + ys.length
       ·rw [if_pos hin] at q2
        rw [if_pos (by omega)]
        obtain ⟨c, l1, p1, p2, p3⟩ := toDs_get hD _ x q2
        have hjl : j - off < u.cells.size := by rw [g1, ← hlen]; omega
        refine ⟨u.cells.toList.getD (j - off) default, by rw [show k * s + j - (k * s + off) = j - off by omega]; exact get_getD _ (by simpa using hjl), ?_⟩
        have hvc := g2 (j - off) (u.cells.toList.getD (j - off) default) c (by simp [hjl]) p1
        exact (toD_rd I p2 hvc hsub fun o' ho' => by rw [drops_get, if_pos (p3 o' ho')]).mono hk
       ·rw [if_neg hin] at q2
        rw [if_neg (by omega)]
        obtain ⟨u', q3, q4⟩ := old k j _ x hri q2
        exact ⟨u', q3, (q4.mono k1).mono hk⟩
      ·rw [if_neg (by
        rcases Nat.lt_or_gt_of_ne hne with h | h
        ·have := Nat.mul_le_mul_right s (show k + 1 ≤ i from h); rw [Nat.add_mul, Nat.one_mul] at this; omega
        ·have := Nat.mul_le_mul_right s (show i + 1 ≤ k from h); rw [Nat.add_mul, Nat.one_mul] at this; omega)]
       obtain ⟨u', q3, q4⟩ := old k j r x hx q2
       exact ⟨u', q3, (q4.mono k1).mono hk⟩)
    exact ⟨_, rfl, I', fun b h => ⟨(k b (k1 b h).1).1, (k b (k1 b h).1).2⟩⟩
   ·cases he
  ·cases he
 | _ => simp [effStore] at he
end
end Go.Proofs.Ytgbialeahdoelaa.Eng

end

section
namespace Go.Proofs.Ytgbialeahdoelaa.Eng
open Go
def fieldOf (P : Program) (s f : Nat) : Option (Nat × Ti) :=
 match ti P s with
 | some T => match T.d with
  | .struct fs => match fs[f]? with
   | some p => match ti P p.2 with
    | some T' => some (p.1, T')
    | none => none
   | none => none
  | _ => none
 | none => none
def effFieldAddr (P : Program) (s f : Nat) (a : AV) : Option Eff :=
 match fieldOf P s f with
 | some (q, T) => if T.sz = 0 then none else
  match a with
  | .ptr o off => some { sc := True, val := .ptr o (off + q) }
  | .ep cs off => some { sc := True, val := .ep cs (off + q) }
  | .rp o sz i off => some { sc := True, val := .rp o sz i (off + q) }
  | _ => none
 | none => none
def effField (P : Program) (s f : Nat) (a : AV) : Option Eff :=
 match fieldOf P s f with
 | some (q, T) => match a with
  | .agg cs => if T.d.agg then (if q + T.sz ≤ cs.length then some { sc := True, val := .agg (seg (fun j => cs.getD j .bad) q T.sz) } else none) else if q < cs.length then some { sc := True, val := cs.getD q .bad } else none
  | _ => none
 | none => none
def sliceOf (P : Program) (t : Nat) : Option (Nat × Ti) :=
 match ti P t with
 | some T => match T.d with
  | .slice e => match ti P e with
   | some E => some (e, E)
   | none => none
  | _ => none
 | none => none
def effIndexAddr (P : Program) (h : Nat → Option AObj) (t : Nat) : AV → AV → Option Eff
 | .d (.sl sz xs), .d (.v (.int _ i)) => match sliceOf P t with
  | some (_, E) => if sz = E.sz then some { sc := 0 ≤ i ∧ i < xs.length, val := .ep (xs.getD i.toNat (E.z.map .v)) 0 } else none
  | none => none
 | .row o n, .d (.v (.int _ i)) => match sliceOf P t, h o with
  | some (_, E), some (.row _ _ _) => some { sc := 0 ≤ i ∧ i < n, val := .rp o E.sz i.toNat 0 }
  | _, _ => none
 | .ptr o off, .d (.v (.int _ i)) => match ti P t with
  | some T => match T.d with
   | .array n e => match ti P e with
    | some E => some { sc := 0 ≤ i ∧ i < n, val := .ptr o (off + i.toNat * E.sz) }
    | none => none
   | _ => none
  | none => none
 | .ep cs off, .d (.v (.int _ i)) => match ti P t with
  | some T => match T.d with
   | .array n e => match ti P e with
    | some E => some { sc := 0 ≤ i ∧ i < n, val := .ep cs (off + i.toNat * E.sz) }
    | none => none
   | _ => none
  | none => none
 | .rp o sz j off, .d (.v (.int _ i)) => match ti P t with
  | some T => match T.d with
   | .array n e => match ti P e with
    | some E => some { sc := 0 ≤ i ∧ i < n, val := .rp o sz j (off + i.toNat * E.sz) }
    | none => none
   | _ => none
  | none => none
 | _, _ => none
def bt (s : ByteArray) (i : Int) : Int := ((s.data.toList.getD i.toNat 0).toNat : Int)
def effIndex (P : Program) (t : Nat) : AV → AV → Option Eff
 | .d (.v (.string s)), .d (.v (.int _ i)) => match ti P t with
  | some T => match T.d with
   | .str => some { sc := 0 ≤ i ∧ i < s.size, val := .d (.v (.int .u8 (bt s i))) }
   | _ => none
  | none => none
 | _, _ => none
def effLen (P : Program) (t : Nat) (a : AV) : Option Eff :=
 match ti P t with
 | some T => match T.d, a with
  | .str, .d (.v (.string s)) => some { sc := True, val := .d (.v (.int .i64 s.size)) }
  | .slice _, .d (.sl _ xs) => some { sc := True, val := .d (.v (.int .i64 xs.length)) }
  | .slice _, .d (.v (.slice none 0 0)) => some { sc := True, val := .d (.v (.int .i64 0)) }
  | .slice _, .row _ n => some { sc := True, val := .d (.v (.int .i64 n)) }
  | .array n _, _ => some { sc := True, val := .d (.v (.int .i64 n)) }
  | _, _ => none
 | none => none
def effExtract (i : Nat) : AV → Option Eff
 | .tup cs => if i < cs.length then some { sc := True, val := cs.getD i .bad } else none
 | _ => none
def bnd : Option AV → Int → Option Int
 | none, n => some n
 | some (.d (.v (.int _ i))), _ => some i
 | _, _ => none
def dats : List AV → Option (List Dat)
 | [] => some []
 | .d x :: l => (dats l).map (x :: ·)
 | _ => none
def effSlice (P : Program) (h : Nat → Option AObj) (d : Nat) (t : Nat) (x : AV) (lo hi : Option AV) : Option Eff :=
 match x with
 | .d (.v (.string s)) => match ti P t, bnd lo 0, bnd hi s.size with
  | some T, some l, some r => match T.d with
   | .str => some { sc := 0 ≤ l ∧ l ≤ r ∧ r ≤ s.size, val := .d (.v (.string (s.extract l.toNat r.toNat))) }
   | _ => none
  | _, _, _ => none
 | .d (.sl sz xs) => match sliceOf P t, bnd lo 0, bnd hi xs.length with
  | some (_, E), some l, some r => if sz = E.sz then some { sc := 0 ≤ l ∧ l ≤ r ∧ r ≤ xs.length, val := .d (.sl sz ((xs.drop l.toNat).take (r.toNat - l.toNat))) } else none
  | _, _, _ => none
 | .row o n => match sliceOf P t, bnd lo 0, bnd hi n, h o with
  | some (_, E), some l, some r, some (.row e s xs) => if s = E.sz then
    (match lo with
     | none => if o = d then none else some { sc := 0 ≤ r ∧ r ≤ xs.length, val := .row d r.toNat, up := [(d, some (.row e s (xs.take r.toNat))), (o, none)], new := true }
     | some _ => some { sc := 0 ≤ l ∧ l ≤ r ∧ r ≤ xs.length, val := .d (.sl s ((xs.drop l.toNat).take (r.toNat - l.toNat))), up := [(o, none)] }) else none
  | _, _, _, _ => none
 | .ptr o 0 => match ti P t, h o with
  | some T, some (.cells _ cs) => match T.d, dats cs with
   | .array n e, some ds => match ti P e, bnd lo 0, bnd hi n with
    | some E, some l, some r => if E.sz = 1 ∧ ds.length = n then some { sc := 0 ≤ l ∧ l ≤ r ∧ r ≤ n, val := .d (.sl 1 (((ds.map fun x => [x]).drop l.toNat).take (r.toNat - l.toNat))), up := [(o, none)] } else none
    | _, _, _ => none
   | _, _ => none
  | _, _ => none
 | _ => none

theorem fieldOf_info {P : Program} {s f q : Nat} {T : Ti} (h : fieldOf P s f = some (q, T)) : ∃ fs : Array Field, ∃ F, P.underlying s = some (.struct fs) ∧ fs[f]? = some F ∧ F.offset = q ∧ ti P F.type = some T := by
 unfold fieldOf at h
 split at h
 ·rename_i T0 h0
  split at h
  ·rename_i fs hd
   split at h
   ·rename_i p hp
    split at h
    ·rename_i T' hT'
     cases h
     obtain ⟨i, dd, z, _, h2, h3, _⟩ := ti_info h0
     rw [hd] at h3
     cases dd <;> simp [tyd] at h3
     rename_i fields
     subst h3
     rw [List.getElem?_map] at hp
     cases hF : fields[f]? with
     | none => rw [Array.getElem?_toList, hF] at hp; cases hp
     | some F => rw [Array.getElem?_toList, hF] at hp; cases hp; exact ⟨fields, F, h2, hF, rfl, hT'⟩
    ·cases h
   ·cases h
  ·cases h
 ·cases h
theorem sliceOf_info {P : Program} {t e : Nat} {E : Ti} (h : sliceOf P t = some (e, E)) : P.underlying t = some (.slice e) ∧ ti P e = some E := by
 unfold sliceOf at h
 split at h
 ·rename_i T0 h0
  split at h
  ·rename_i e' hd
   split at h
   ·rename_i T' hT'
    cases h
    obtain ⟨i, dd, z, _, h2, h3, _⟩ := ti_info h0
    rw [hd] at h3
    cases dd <;> simp [tyd] at h3
    subst h3
    exact ⟨h2, hT'⟩
   ·cases h
  ·cases h
 ·cases h
theorem tyd_inv {P : Program} {t : Nat} {T : Ti} (h : ti P t = some T) : ∃ d, P.underlying t = some d ∧ tyd d = T.d := by
 obtain ⟨i, dd, z, _, h2, h3, _⟩ := ti_info h
 exact ⟨dd, h2, h3⟩
theorem tyd_str {d : TypeDesc} (h : tyd d = .str) : d = .string := by cases d <;> simp [tyd] at h; rfl
theorem tyd_slice {d : TypeDesc} {e : Nat} (h : tyd d = .slice e) : d = .slice e := by cases d <;> simp [tyd] at h; rw [h]
theorem tyd_array {d : TypeDesc} {n e : Nat} (h : tyd d = .array n e) : d = .array n e := by cases d <;> simp [tyd] at h; rw [h.1, h.2]
section
variable {P : Program} {C : Ctx} {m : Nat → Value} {w : World} {hp : Hp} {d : Nat} {sc : Prop}
theorem effFieldAddr_ok (I : Inv C m w hp) {s f : Nat} {a : AV} {u : Value} {e : Eff} (he : effFieldAddr P s f a = some e) (hv : Val w (im C m w hp) m u a) : Ok C m w hp d e ((Instr.fieldAt s u f).run P w) := by
 unfold effFieldAddr at he
 split at he
 ·rename_i q T hf
  obtain ⟨fs, F, h1, h2, h3, h4⟩ := fieldOf_info hf
  split at he
  ·cases he
  rename_i hz
  have run : ∀ a0 : Addr, (Instr.fieldAt s (.pointer (some a0)) f).run P w = .ok (.pointer (some (a0.add q))) w := fun a0 => by
   simp [Instr.fieldAt, run_underlying h1, h2, Instr.sureAddr, fieldPlace, run_sizeOf h4, hz, h3]
  cases hv with
  | ptr hm => cases he; rw [run, addr_eta _ rfl]; exact Ok.same I (.ptr hm)
  | @ep a cs off vs hs hi hw hr => cases he; rw [run, add_add _ hs]; exact Ok.same I (.ep vs hs hi hw hr)
  | rp hm => cases he; rw [run, addr_eta _ rfl, Nat.add_assoc]; exact Ok.same I (.rp hm)
  | _ => cases he
 ·cases he
theorem val_seg {im : Nat → Prop} {us : Array Value} {cs : List AV} {q n : Nat} (hn : us.size = cs.length) (h : ∀ (i : Nat) (u : Value) (c : AV), us[i]? = some u → cs[i]? = some c → Val w im m u c) (hq : q + n ≤ cs.length) :
  Val w im m (.agg (us.extract q (q + n))) (.agg (seg (fun j => cs.getD j .bad) q n)) := by
 refine .agg (by rw [seg_length, Array.size_extract]; omega) fun i u c h6 h7 => ?_
 have hi : i < n := by have := (List.getElem?_eq_some_iff.1 h7).1; rwa [seg_length] at this
 rw [seg_get _ _ _ _ hi] at h7
 cases h7
 rw [Array.getElem?_extract] at h6
 split at h6
 ·exact h _ _ _ h6 (get_getD _ (by omega))
 ·cases h6
theorem effField_ok (I : Inv C m w hp) {s f : Nat} {a : AV} {u : Value} {e : Eff} (he : effField P s f a = some e) (hv : Val w (im C m w hp) m u a) : Ok C m w hp d e ((Instr.field s u f).run P w) := by
 unfold effField at he
 split at he
 ·rename_i q T hf
  obtain ⟨fs, F, h1, h2, h3, h4⟩ := fieldOf_info hf
  cases hv with
  | @agg us cs hn h =>
   simp only at he
   split at he
   ·rename_i ha
    split at he
    ·rename_i hle
     cases he
     simp only [Instr.field, Sem.run_bind, run_underlying h1, Result.andThen_ok, h2, asAgg, Sem.run_pure, part, run_isAgg h4, ha, if_true, run_sizeOf h4, h3]
     exact Ok.same I (val_seg hn h hle)
    ·cases he
   ·rename_i ha
    split at he
    ·rename_i hlt
     cases he
     have hq : us[q]? = some (us.getD q default) := by simp [hn, hlt]
     simp only [Instr.field, Sem.run_bind, run_underlying h1, Result.andThen_ok, h2, asAgg, Sem.run_pure, part, run_isAgg h4, ha, Bool.false_eq_true, if_false, h3, hq]
     exact Ok.same I (h q _ _ hq (get_getD _ hlt))
    ·cases he
  | _ => cases he
 ·cases he
theorem effIndexAddr_ok (I : Inv C m w hp) {t : Nat} {x i : AV} {ux ui : Value} {e : Eff} (he : effIndexAddr P hp.get t x i = some e) (hs : e.sc) (hx : Val w (im C m w hp) m ux x) (hi : Val w (im C m w hp) m ui i) :
  Ok C m w hp d e ((Instr.indexAt t ux ui).run P w) := by
 unfold effIndexAddr at he
 split at he
 ·rename_i sz xs k n
  split at he
  ·rename_i e0 E hE
   obtain ⟨h1, h2⟩ := sliceOf_info hE
   split at he
   ·rename_i hsz
    cases he
    obtain ⟨s1, s2⟩ := hs
    cases hi with
    | d hi =>
    cases hi
    cases hx with
    | d hx =>
    cases hx with
    | nil => simp at s2; omega
    | @sl a len cap _ _ vs ha hl hc him hz hw hr =>
     have hlt : n.toNat < xs.length := by omega
     have hne : xs ≠ [] := by rintro rfl; simp at hlt
     have hrow := get_getD (E.z.map .v) hlt
     replace ha := ha hne
     simp only [Instr.indexAt, asIntOf, Sem.run_bind, Sem.run_pure, Result.andThen_ok, run_underlying h1]
     rw [if_pos ⟨s1, by rw [hl]; exact s2⟩]
     simp only [Sem.run_bind, run_sizeOf h2, Result.andThen_ok, Sem.run_pure]
     have := Val.ep (w := w) (im := im C m w hp) (m := m) (a := a.add (n.toNat * E.sz)) (cs := xs.getD n.toNat (E.z.map .v)) (off := 0) (fun j => vs n.toNat j) (add_spot a ha _) (fun _ => by rw [add_block]; exact him hne)
      (fun j x hj => by rw [add_add a ha, ← hsz]; exact hw _ j _ x hrow hj) (fun j x hj => hr _ j _ x hrow hj)
     rw [add_add a ha, Nat.add_zero] at this
     exact Ok.same I this
   ·cases he
  ·cases he
 ·rename_i o n k i
  split at he
  ·rename_i e0 E e1 s1 xs hE ho
   obtain ⟨h1, h2⟩ := sliceOf_info hE
   cases he
   obtain ⟨g1, g2⟩ := hs
   cases hi with
   | d hi =>
   cases hi
   cases hx with
   | @row _ _ cap a hm =>
    obtain ⟨us, q1, _⟩ := I.live o _ ho
    rw [hm] at q1
    rcases q1.2 with ⟨e, _⟩ | ⟨g, cap', cur, e, _⟩
    ·cases e; omega
    cases e
    simp only [Instr.indexAt, asIntOf, Sem.run_bind, Sem.run_pure, Result.andThen_ok, run_underlying h1]
    rw [if_pos ⟨g1, g2⟩]
    simp only [Sem.run_bind, run_sizeOf h2, Result.andThen_ok, Sem.run_pure]
    rw [addr_eta _ rfl, Nat.zero_add]
    exact Ok.same I (.rp (off := 0) hm)
  ·cases he
 ·rename_i o off k i
  split at he
  ·rename_i T hT
   split at he
   ·rename_i n e0 hd
    split at he
    ·rename_i E hE
     cases he
     obtain ⟨g1, g2⟩ := hs
     obtain ⟨dd, h1, h2⟩ := tyd_inv hT
     have h3 := tyd_array (h2.trans hd)
     subst h3
     cases hi with
     | d hi =>
     cases hi
     cases hx with
     | ptr hm =>
      simp only [Instr.indexAt, asIntOf, Sem.run_bind, Sem.run_pure, Result.andThen_ok, run_underlying h1, Instr.sureAddr]
      rw [if_pos ⟨g1, g2⟩]
      simp only [Sem.run_bind, run_sizeOf hE, Result.andThen_ok, Sem.run_pure]
      rw [addr_eta _ rfl]
      exact Ok.same I (.ptr hm)
    ·cases he
   ·cases he
  ·cases he
 ·rename_i cs off k i
  split at he
  ·rename_i T hT
   split at he
   ·rename_i n e0 hd
    split at he
    ·rename_i E hE
     cases he
     obtain ⟨g1, g2⟩ := hs
     obtain ⟨dd, h1, h2⟩ := tyd_inv hT
     have h3 := tyd_array (h2.trans hd)
     subst h3
     cases hi with
     | d hi =>
     cases hi
     cases hx with
     | @ep a cs off vs ha hi hw hr =>
      simp only [Instr.indexAt, asIntOf, Sem.run_bind, Sem.run_pure, Result.andThen_ok, run_underlying h1, Instr.sureAddr]
      rw [if_pos ⟨g1, g2⟩]
      simp only [Sem.run_bind, run_sizeOf hE, Result.andThen_ok, Sem.run_pure]
      rw [add_add a ha]
      exact Ok.same I (.ep vs ha hi hw hr)
    ·cases he
   ·cases he
  ·cases he
 ·rename_i o sz j off k i
  split at he
  ·rename_i T hT
   split at he
   ·rename_i n e0 hd
    split at he
    ·rename_i E hE
     cases he
     obtain ⟨g1, g2⟩ := hs
     obtain ⟨dd, h1, h2⟩ := tyd_inv hT
     have h3 := tyd_array (h2.trans hd)
     subst h3
     cases hi with
     | d hi =>
     cases hi
     cases hx with
     | rp hm =>
      simp only [Instr.indexAt, asIntOf, Sem.run_bind, Sem.run_pure, Result.andThen_ok, run_underlying h1, Instr.sureAddr]
      rw [if_pos ⟨g1, g2⟩]
      simp only [Sem.run_bind, run_sizeOf hE, Result.andThen_ok, Sem.run_pure]
      rw [addr_eta _ rfl, Nat.add_assoc]
      exact Ok.same I (.rp hm)
    ·cases he
   ·cases he
  ·cases he
 ·cases he
theorem effIndex_ok (I : Inv C m w hp) {t : Nat} {x i : AV} {ux ui : Value} {e : Eff} (he : effIndex P t x i = some e) (hs : e.sc) (hx : Val w (im C m w hp) m ux x) (hi : Val w (im C m w hp) m ui i) :
  Ok C m w hp d e ((Instr.index t ux ui).run P w) := by
 unfold effIndex at he
 split at he
 ·rename_i s k i
  split at he
  ·rename_i T hT
   split at he
   ·rename_i hd
    cases he
    obtain ⟨g1, g2⟩ := hs
    obtain ⟨dd, h1, h2⟩ := tyd_inv hT
    have h3 := tyd_str (h2.trans hd)
    subst h3
    cases hi with
    | d hi =>
    cases hi
    cases hx with
    | d hx =>
    cases hx
    have hlt : i.toNat < s.size := by omega
    have hb : s[i.toNat]? = some (s.data.toList.getD i.toNat 0) := by
     have : i.toNat < s.data.size := hlt
     rw [getElem?_pos s i.toNat hlt]
     simp only [List.getD_eq_getElem?_getD, Array.getElem?_toList, Array.getElem?_eq_getElem this, Option.getD_some]
     rfl
    simp only [Instr.index, asIntOf, Sem.run_bind, Sem.run_pure, Result.andThen_ok, run_underlying h1]
    rw [if_pos g1, hb]
    exact Ok.same I (.d (.v rfl))
   ·cases he
  ·cases he
 ·cases he
theorem effLen_ok (I : Inv C m w hp) {t ty : Nat} {x : AV} {u : Value} {e : Eff} (he : effLen P t x = some e) (hx : Val w (im C m w hp) m u x) : Ok C m w hp d e ((Builtin.len_ #[t] ty #[u]).run P w) := by
 unfold effLen at he
 split at he
 ·rename_i T hT
  obtain ⟨dd, h1, h2⟩ := tyd_inv hT
  split at he
  ·rename_i s hd
   have h3 := tyd_str (h2.trans hd)
   subst h3
   cases he
   cases hx with | d hx => cases hx; simp [Builtin.len_, run_underlying h1, goInt]; exact Ok.same I (.d (.v rfl))
  ·rename_i e0 sz xs hd
   have h3 := tyd_slice (h2.trans hd)
   subst h3
   cases he
   cases hx with
   | d hx =>
   cases hx with
   | nil => simp [Builtin.len_, run_underlying h1, goInt]; exact Ok.same I (.d (.v rfl))
   | sl vs ha hl => simp [Builtin.len_, run_underlying h1, goInt, hl]; exact Ok.same I (.d (.v rfl))
  ·rename_i e0 hd
   have h3 := tyd_slice (h2.trans hd)
   subst h3
   cases he
   cases hx with | d hx => cases hx; simp [Builtin.len_, run_underlying h1, goInt]; exact Ok.same I (.d (.v rfl))
  ·rename_i e0 o n hd
   have h3 := tyd_slice (h2.trans hd)
   subst h3
   cases he
   cases hx with | row hm => simp [Builtin.len_, run_underlying h1, goInt]; exact Ok.same I (.d (.v rfl))
  ·rename_i n e0 hd
   have h3 := tyd_array (h2.trans hd)
   subst h3
   cases he
   simp [Builtin.len_, run_underlying h1, goInt]; exact Ok.same I (.d (.v rfl))
  ·cases he
 ·cases he
theorem effExtract_ok (I : Inv C m w hp) {i : Nat} {x : AV} {u : Value} {e : Eff} (he : effExtract i x = some e) (hx : Val w (im C m w hp) m u x) : Ok C m w hp d e ((Instr.extract u i).run P w) := by
 unfold effExtract at he
 cases hx with
 | @tup us cs hn h =>
  simp only at he
  split at he
  ·rename_i hlt
   cases he
   have hq : us[i]? = some (us.getD i default) := by simp [hn, hlt]
   simp only [Instr.extract, hq, Sem.run_pure]
   exact Ok.same I (h i _ _ hq (get_getD _ hlt))
  ·cases he
 | _ => simp at he
def OptVal (w : World) (im : Nat → Prop) (m : Nat → Value) : Option Value → Option AV → Prop
 | none, none => True
 | some u, some c => Val w im m u c
 | _, _ => False
theorem run_bounds {imp : Nat → Prop} {lo hi : Option AV} {ulo uhi : Option Value} {l r : Int} {n cap : Nat} {b : Bool} (hlo : OptVal w imp m ulo lo) (hhi : OptVal w imp m uhi hi) (hl : bnd lo 0 = some l) (hr : bnd hi n = some r)
  (h0 : 0 ≤ l) (h1 : l ≤ r) (h2 : r ≤ n) (hc : n ≤ cap) : (Instr.sliceBounds b n cap ulo uhi none).run P w = .ok (l.toNat, r.toNat, cap) w := by
 have hiR : ∀ code, (match uhi with | some v => Instr.sliceBound v cap code | none => pure n : Sem Nat).run P w = .ok r.toNat w := fun code => by
  cases hi with
  | none =>
   cases uhi with
   | none => simp only [bnd, Option.some.injEq] at hr; subst hr; simp
   | some v => exact hhi.elim
  | some c =>
   cases uhi with
   | none => exact hhi.elim
   | some v =>
    unfold bnd at hr
    split at hr
    ·rename_i q; cases q
    ·rename_i k i q
     cases q
     cases hr
     have hv : Val w imp m v (.d (.v (.int k r))) := hhi
     cases hv with | d hv => cases hv; simp only [Instr.sliceBound, asIntOf, Sem.run_bind, Sem.run_pure, Result.andThen_ok]; rw [if_pos ⟨by omega, by omega⟩]; rfl
    ·cases hr
 have loR : (match ulo with | some v => Instr.sliceBound v r.toNat .sliceB | none => pure 0 : Sem Nat).run P w = .ok l.toNat w := by
  cases lo with
  | none =>
   cases ulo with
   | none => simp only [bnd, Option.some.injEq] at hl; subst hl; simp
   | some v => exact hlo.elim
  | some c =>
   cases ulo with
   | none => exact hlo.elim
   | some v =>
    unfold bnd at hl
    split at hl
    ·rename_i q; cases q
    ·rename_i k i q
     cases q
     cases hl
     have hv : Val w imp m v (.d (.v (.int k l))) := hlo
     cases hv with | d hv => cases hv; simp only [Instr.sliceBound, asIntOf, Sem.run_bind, Sem.run_pure, Result.andThen_ok]; rw [if_pos ⟨by omega, by omega⟩]; rfl
    ·cases hl
 have hiR' := hiR (if b = true then .sliceAcap else .sliceAlen)
 cases uhi <;> cases ulo <;> simp_all [Instr.sliceBounds]
theorem rd_cut {imp : Nat → Prop} {u : Value} {sz : Nat} {xs : List (List Dat)} (h : Rd w imp u (.sl sz xs)) : ∃ a len cap, u = .slice a len cap ∧ len = xs.length ∧ len ≤ cap ∧
  ∀ l r, l ≤ r → r ≤ xs.length → Rd w imp (.slice (if cap = l then a else a.map (·.add (l * sz))) (r - l) (cap - l)) (.sl sz ((xs.drop l).take (r - l))) := by
 cases h with
 | nil => exact ⟨none, 0, 0, rfl, rfl, Nat.le_refl _, fun l r h1 h2 => by
   have e1 : r = 0 := by simpa using h2
   have e2 : l = 0 := by omega
   subst e1 e2
   exact .nil sz⟩
 | @sl a len cap _ _ vs hs hl hc hi hz hw hr =>
  refine ⟨some a, len, cap, rfl, hl, hc, fun l r h1 h2 => ?_⟩
  have hlen : ((xs.drop l).take (r - l)).length = r - l := by rw [List.length_take, List.length_drop]; omega
  have hg : ∀ i row, ((xs.drop l).take (r - l))[i]? = some row → xs[l + i]? = some row := fun i row h => by
   rw [List.getElem?_take] at h
   split at h
   ·rwa [List.getElem?_drop] at h
   ·cases h
  by_cases e : cap = l
  ·rw [if_pos e]
   have e2 : r - l = 0 := by omega
   rw [e2, List.take_zero]
   exact .sl vs (fun h => absurd rfl h) (by simp) (by omega) (fun h => absurd rfl h) (fun i r h => by simp at h) (fun i j r x h => by simp at h) (fun i j r x h => by simp at h)
  ·rw [if_neg e, Option.map_some]
   have ne : ((xs.drop l).take (r - l)) ≠ [] → xs ≠ [] := fun h q => h (by rw [q]; simp)
   refine .sl (fun i j => vs (l + i) j) (fun h => add_spot a (hs (ne h)) _) hlen.symm (by omega) (fun h => ?_) (fun i r h => hz _ _ (hg i r h)) (fun i j r x h k => ?_) (fun i j r x h k => hr _ _ _ _ (hg i r h) k)
   ·rw [add_block]
    exact hi (fun q => h (by rw [q]; simp))
   ·rw [add_add a (hs (List.ne_nil_of_mem (List.mem_of_getElem? (hg i r h)))), ← Nat.add_assoc, ← Nat.add_mul]
    exact hw _ _ _ _ (hg i r h) k
theorem dats_get : ∀ {cs : List AV} {ds : List Dat}, dats cs = some ds → cs = ds.map .d
 | [], _, h => by cases h; rfl
 | .d x :: l, ds, h => by
  simp only [dats] at h
  cases hl : dats l with
  | none => rw [hl] at h; cases h
  | some ys => rw [hl] at h; cases h; simp [dats_get hl]
 | .agg _ :: _, _, h => by cases h
 | .ptr _ _ :: _, _, h => by cases h
 | .ep _ _ :: _, _, h => by cases h
 | .row _ _ :: _, _, h => by cases h
 | .rp _ _ _ _ :: _, _, h => by cases h
 | .fn _ _ :: _, _, h => by cases h
 | .tup _ :: _, _, h => by cases h
 | .gd _ _ :: _, _, h => by cases h
 | .bad :: _, _, h => by cases h
theorem cells_rd (I : Inv C m w hp) {o e b : Nat} {ds : List Dat} (hm : m o = .pointer (some ⟨b, 0, none⟩)) (ho : hp.get o = some (.cells e (ds.map .d))) {hp1 : Hp} (hsub : ∀ o obj, hp1.get o = some obj → hp.get o = some obj) (hno : hp1.get o = none) :
  Rd w (im C m w hp1) (.slice (some ⟨b, 0, none⟩) ds.length ds.length) (.sl 1 (ds.map fun x => [x])) := by
 obtain ⟨b', us, h1, h2, h3, h4, _⟩ := I.live o _ ho
 rw [hm] at h1
 cases h1
 have k := (I.drop hsub).2
 have hg : blk (m o) = some b := by rw [hm]; rfl
 rw [List.length_map] at h3
 have hcell : ∀ (i j : Nat) (r : List Dat) (x : Dat), (ds.map fun x => [x])[i]? = some r → r[j]? = some x → ds[i]? = some x ∧ j = 0 := fun i j r x q1 q2 => by
  rw [List.getElem?_map] at q1
  cases hx : ds[i]? with
  | none => rw [hx] at q1; cases q1
  | some y =>
   rw [hx] at q1
   cases q1
   cases j with
   | zero => cases q2; exact ⟨rfl, rfl⟩
   | succ j => simp at q2
 refine .sl (fun i j => us.getD i default) (fun _ => rfl) (by simp) (Nat.le_refl _) (fun _ => ⟨(Array.getElem?_eq_some_iff.1 h2).1, ?_, fun o' x ho' e => ?_⟩) (fun i r q => ?_) (fun i j r x q1 q2 => ?_) (fun i j r x q1 q2 => ?_)
 ·rcases I.own o _ b ho hg with h | h <;> simp [h]
 ·have hne : o ≠ o' := fun q => by subst q; rw [hno] at ho'; cases ho'
  exact I.sep o o' _ x b ho (hsub o' x ho') hne hg e
 ·rw [List.getElem?_map] at q
  cases hx : ds[i]? with
  | none => rw [hx] at q; cases q
  | some y => rw [hx] at q; cases q; rfl
 ·obtain ⟨hx, rfl⟩ := hcell i j r x q1 q2
  have hi : i < us.size := by have := (List.getElem?_eq_some_iff.1 hx).1; omega
  rw [addr_eta _ rfl]
  simp [World.cell?, h2, hi]
 ·obtain ⟨hx, rfl⟩ := hcell i j r x q1 q2
  have hi : i < us.size := by have := (List.getElem?_eq_some_iff.1 hx).1; omega
  have hv := h4 i (us.getD i default) (.d x) (by simp [hi]) (by rw [List.getElem?_map, hx]; rfl)
  show Rd w _ (us.getD i default) x
  generalize us.getD i default = uu at hv
  cases hv with
  | d hv => exact hv.mono k
theorem effSlice_ok (I : Inv C m w hp) {t : Nat} {x : AV} {lo hi : Option AV} {u : Value} {ulo uhi : Option Value} {e : Eff} (he : effSlice P hp.get d t x lo hi = some e) (hs : e.sc) (hf : e.new = true → Fr hp d)
  (hx : Val w (im C m w hp) m u x) (hlo : OptVal w (im C m w hp) m ulo lo) (hhi : OptVal w (im C m w hp) m uhi hi) : Ok C m w hp d e ((Instr.sliceAt t u ulo uhi none).run P w) := by
 unfold effSlice at he
 split at he
 ·rename_i s
  split at he
  ·rename_i T l r hT hl hr
   split at he
   ·rename_i hd
    cases he
    obtain ⟨g0, g1, g2⟩ := hs
    obtain ⟨dd, h1, h2⟩ := tyd_inv hT
    have h3 := tyd_str (h2.trans hd)
    subst h3
    cases hx with
    | d hx =>
    cases hx
    simp only [Instr.sliceAt, Instr.slice, Sem.run_bind, Sem.run_pure, Result.andThen_ok, run_underlying h1, Option.isSome_none, Bool.false_eq_true, if_false, run_bounds (P := P) (b := false) hlo hhi hl hr g0 g1 g2 (Nat.le_refl _)]
    exact Ok.same I (.d (.v rfl))
   ·cases he
  ·cases he
 ·rename_i sz xs
  split at he
  ·rename_i e0 E l r hE hl hr
   obtain ⟨h1, h2⟩ := sliceOf_info hE
   split at he
   ·rename_i hsz
    cases he
    obtain ⟨g0, g1, g2⟩ := hs
    cases hx with
    | d hx =>
    obtain ⟨a, len, cap, rfl, rfl, hc, hcut⟩ := rd_cut hx
    simp only [Instr.sliceAt, Instr.slice, Sem.run_bind, Sem.run_pure, Result.andThen_ok, run_underlying h1, run_bounds (P := P) (b := true) hlo hhi hl hr g0 g1 g2 hc, run_sizeOf h2]
    rw [← hsz]
    exact Ok.same I (.d (hcut _ _ (by omega) (by omega)))
   ·cases he
  ·cases he
 ·rename_i o n
  split at he
  ·rename_i e0 E l r e1 s1 xs hE hl hr ho
   obtain ⟨h1, h2⟩ := sliceOf_info hE
   split at he
   ·rename_i hsz
    cases hx with
    | @row _ _ cap a hm =>
    obtain ⟨us, ⟨q0, q1⟩, q2, q3⟩ := I.live o _ ho
    have hlen : n = xs.length ∧ n ≤ cap := by
     rw [hm] at q1
     rcases q1 with ⟨e, h0⟩ | ⟨g, cap', cur, e, _, _, hle, _⟩
     ·cases e; omega
     ·cases e; omega
    obtain ⟨rfl, hcap⟩ := hlen
    have run : ∀ (g0 : 0 ≤ l) (g1 : l ≤ r) (g2 : r ≤ (xs.length : Int)), (Instr.sliceAt t (.slice a xs.length cap) ulo uhi none).run P w = .ok (.slice (if cap = l.toNat then a else a.map (·.add (l.toNat * E.sz))) (r.toNat - l.toNat) (cap - l.toNat)) w := fun g0 g1 g2 => by
     simp only [Instr.sliceAt, Instr.slice, Sem.run_bind, Sem.run_pure, Result.andThen_ok, run_underlying h1, run_bounds (P := P) (b := true) hlo hhi hl hr g0 g1 g2 hcap, run_sizeOf h2]
    split at he
    ·split at he
     ·cases he
     rename_i hod
     cases he
     obtain ⟨g0, g2⟩ := hs
     cases hl
     have hf := hf rfl
     rw [run (by omega) g0 g2]
     have hbase : (if cap = (0 : Int).toNat then a else a.map (·.add ((0 : Int).toNat * E.sz))) = a := by
      simp only [Int.toNat_zero, Nat.zero_mul]
      split
      ·rfl
      ·cases a <;> simp [Addr.add]
     rw [hbase]
     simp only [Int.toNat_zero, Nat.sub_zero]
     let m' : Nat → Value := fun o => if o = d then .slice a r.toNat cap else m o
     have md : m' d = .slice a r.toNat cap := if_pos rfl
     have mo : ∀ o, o ≠ d → m' o = m o := fun o h => if_neg h
     have hb : blk (m' d) = blk (m o) := by rw [md, hm]; cases a <;> rfl
     have hsub : ∀ o' obj, Hp.get ((o, none) :: hp) o' = some obj → hp.get o' = some obj := fun o' obj h => by
      rw [Hp.get_cons] at h
      split at h
      ·cases h
      ·exact h
     obtain ⟨I', k⟩ := I.put (m' := m') (w' := w) (hp1 := (o, none) :: hp) hsub d (.row e1 s1 (xs.take r.toNat)) mo (.inr fun o' x' h' _ => (hf o' x' (hsub o' x' h')).2) rfl rfl rfl (Nat.le_refl _) (fun _ _ _ => rfl)
      (fun b hb' => by
       rw [hb] at hb'
       refine ⟨I.own o _ b ho hb', I.not_im ho hb', fun o' x' ho' _ e => ?_⟩
       have hne : o ≠ o' := fun q => by subst q; rw [Hp.get_cons, if_pos rfl] at ho'; cases ho'
       exact I.sep o o' _ x' b ho (hsub o' x' ho') hne hb' e)
      (fun im' hk => by
       have htk : (xs.take r.toNat).length = r.toNat := by rw [List.length_take]; omega
       have hmul : r.toNat * s1 ≤ xs.length * s1 := Nat.mul_le_mul_right _ (by omega)
       refine ⟨us.take (r.toNat * s1), ⟨by rw [List.length_take, htk, q0]; omega, ?_⟩, fun i row h => q2 i row ?_, fun i j row x h1 h2 => ?_⟩
       ·rw [htk]
        rw [hm] at q1
        rcases q1 with ⟨e, h0⟩ | ⟨g, cap', cur, e, p1, p2, p3, p4, p5, p6⟩
        ·injection e with e1 e2 e3
         refine .inl ⟨?_, by omega⟩
         rw [md, e1, e3]; congr; omega
        ·cases e
         refine .inr ⟨g, cap, cur, md, p1, p2, by omega, p4, p5, ?_⟩
         rw [← p6, List.take_take, Nat.min_eq_left hmul]
       ·rw [List.getElem?_take] at h
        split at h
        ·exact h
        ·cases h
       ·have hi : i < r.toNat := by
         rw [List.getElem?_take] at h1
         split at h1
         ·assumption
         ·cases h1
        have h1' : xs[i]? = some row := by rwa [List.getElem?_take, if_pos hi] at h1
        have hj : j < s1 := by rw [← q2 i row h1']; exact (List.getElem?_eq_some_iff.1 h2).1
        have hm2 : (i + 1) * s1 ≤ r.toNat * s1 := Nat.mul_le_mul_right _ hi
        rw [Nat.add_mul, Nat.one_mul] at hm2
        obtain ⟨u', q4, q5⟩ := q3 i j row x h1' h2
        exact ⟨u', by rw [List.getElem?_take, if_pos (by omega)]; exact q4, q5.mono hk⟩)
     exact ⟨_, w, m', rfl, fun o h => mo o (h rfl), I', .row md, k⟩
    ·cases he
     obtain ⟨g0, g1, g2⟩ := hs
     have hsub : ∀ o' obj, Hp.get ((o, none) :: hp) o' = some obj → hp.get o' = some obj := fun o' obj h => by
      rw [Hp.get_cons] at h
      split at h
      ·cases h
      ·exact h
     have hrd := row_rd I ho hsub (by rw [Hp.get_cons, if_pos rfl])
     rw [hm] at hrd
     obtain ⟨a', len', cap', e', _, _, hcut⟩ := rd_cut hrd
     cases e'
     rw [run g0 g1 g2, ← hsz]
     obtain ⟨I', k⟩ := I.drop hsub
     exact ⟨_, w, m, rfl, fun _ _ => rfl, I', .d (hcut _ _ (by omega) (by omega)), k⟩
   ·cases he
  ·cases he
 ·rename_i o
  split at he
  ·rename_i T e1 cs hT ho
   split at he
   ·rename_i n e0 ds hd hds
    split at he
    ·rename_i E l r hE hl hr
     split at he
     ·rename_i hsz
      cases he
      obtain ⟨g0, g1, g2⟩ := hs
      obtain ⟨dd, h1, h2⟩ := tyd_inv hT
      have h3 := tyd_array (h2.trans hd)
      subst h3
      have hcs := dats_get hds
      subst hcs
      cases hx with
      | @ptr _ _ b hm =>
      have hsub : ∀ o' obj, Hp.get ((o, none) :: hp) o' = some obj → hp.get o' = some obj := fun o' obj h => by
       rw [Hp.get_cons] at h
       split at h
       ·cases h
       ·exact h
      have hrd := cells_rd I hm ho hsub (by rw [Hp.get_cons, if_pos rfl])
      obtain ⟨a', len', cap', e', _, _, hcut⟩ := rd_cut hrd
      cases e'
      have hcut := hcut l.toNat r.toNat (by omega) (by rw [List.length_map, hsz.2]; omega)
      simp only [Instr.sliceAt, Sem.run_bind, Sem.run_pure, Result.andThen_ok, run_underlying h1, Instr.sureAddr, run_bounds (P := P) (b := false) hlo hhi hl hr g0 g1 g2 (Nat.le_refl _), run_sizeOf hE, hsz.1]
      rw [hsz.2] at hcut
      obtain ⟨I', k⟩ := I.drop hsub
      refine ⟨_, w, m, rfl, fun _ _ => rfl, I', .d ?_, k⟩
      split at hcut
      ·rename_i q; rw [if_pos q]; exact hcut
      ·rename_i q; rw [if_neg q]; exact hcut
     ·cases he
    ·cases he
   ·cases he
  ·cases he
 ·cases he
end
end Go.Proofs.Ytgbialeahdoelaa.Eng

end

section
namespace Go.Proofs.Ytgbialeahdoelaa.Eng
open Go
set_option linter.unusedVariables false
set_option linter.unusedSimpArgs false
theorem Rd.one {w : World} {im : Nat → Prop} {u : Value} {x : Dat} (h : Rd w im u x) : u.oneCell' = true := by
 cases h <;> first | assumption | rfl
def byteRow (b : UInt8) : List Dat := [.v (.int .u8 b.toNat)]
def srcOf (P : Program) (h : Nat → Option AObj) (sz tx : Nat) : AV → Option (List (List Dat))
 | .row o _ => match h o, sliceOf P tx with
  | some (.row _ s ys), some _ => if s = sz then some ys else none
  | _, _ => none
 | .d (.sl s ys) => match sliceOf P tx with
  | some _ => if s = sz then some ys else none
  | none => none
 | .d (.v (.slice none 0 0)) => match sliceOf P tx with
  | some _ => some []
  | none => none
 | .d (.v (.slice (some _) 0 _)) => match sliceOf P tx with
  | some _ => some []
  | none => none
 | .d (.v (.string s)) => match ti P tx with
  | some T => match T.d with
   | .str => if sz = 1 then some (s.data.toList.map byteRow) else none
   | _ => none
  | none => none
 | _ => none
def effAppend (P : Program) (h : Nat → Option AObj) (d t tx : Nat) (s x : AV) : Option Eff :=
 match sliceOf P t with
 | some (e, E) => match srcOf P h E.sz tx x with
  | some ys => if E.sz = 0 ∨ E.by_ = 0 then none else
   match s with
   | .row o _ => match h o with
    | some (.row e' s' xs) => if e' = e ∧ s' = E.sz then some { sc := (xs.length + ys.length) * E.by_ ≤ 140737488355328, val := .row d (xs ++ ys).length, up := [(d, some (.row e s' (xs ++ ys))), (o, none)], new := true } else none
    | _ => none
   | .d (.v (.slice none 0 0)) => some { sc := ys.length * E.by_ ≤ 140737488355328, val := .row d ys.length, up := [(d, some (.row e E.sz ys))], new := true }
   | _ => none
  | none => none
 | none => none
section
variable {P : Program} {C : Ctx} {m : Nat → Value} {w : World} {hp : Hp} {d : Nat} {sc : Prop}
theorem split_idx {sz k : Nat} (h : 0 < sz) : k / sz * sz + k % sz = k ∧ k % sz < sz := ⟨by rw [Nat.mul_comm]; exact Nat.div_add_mod k sz, Nat.mod_lt _ h⟩
theorem idx_split {sz i j : Nat} (h : j < sz) : (i * sz + j) / sz = i ∧ (i * sz + j) % sz = j := by
 have h0 : 0 < sz := by omega
 constructor
 ·rw [Nat.mul_comm, Nat.mul_add_div h0, Nat.div_eq_of_lt h, Nat.add_zero]
 ·rw [Nat.mul_comm, Nat.mul_add_mod, Nat.mod_eq_of_lt h]
theorem src_ok (I : Inv C m w hp) {sz tx : Nat} {x : AV} {u : Value} {ys : List (List Dat)} (h0 : 0 < sz) (h : srcOf P hp.get sz tx x = some ys) (hx : Val w (im C m w hp) m u x) :
  ∃ news, Src P sz tx u ys.length news w ∧ (∀ (i : Nat) (r : List Dat), ys[i]? = some r → r.length = sz) ∧ ∀ (i j : Nat) (r : List Dat) (x : Dat), ys[i]? = some r → r[j]? = some x → ∃ u, news[i * sz + j]? = some u ∧ Rd w (im C m w hp) u x := by
 unfold srcOf at h
 split at h
 ·rename_i o n
  split at h
  ·rename_i e0 s ys' p ho hp'
   split at h
   ·rename_i hs
    cases h
    subst hs
    obtain ⟨hk, _⟩ := sliceOf_info hp'
    obtain ⟨us, ⟨q0, q1⟩, q2, q3⟩ := I.live o _ ho
    cases hx with
    | @row _ _ cap a hm =>
    rw [hm] at q1
    rcases q1 with ⟨e, hn⟩ | ⟨g, cap', cur, e, _, hh, hle, _, hcs, htk⟩
    ·injection e with e1 e2 e3
     subst e1 e2 e3
     have : ys = [] := List.eq_nil_of_length_eq_zero hn
     subst this
     exact ⟨[], Src.ofNil w hk 0, by simp, by simp⟩
    ·injection e with e1 e2 e3
     subst e1 e2 e3
     have hcell : ∀ j u, us[j]? = some u → w.cell? ((⟨g, 0, none⟩ : Addr).add j) = some u := fun j u hu => by
      rw [addr_eta _ rfl]
      rw [← htk, List.getElem?_take] at hu
      split at hu
      ·simp only [World.cell?, hh, Nat.zero_add]; simpa using hu
      ·cases hu
     refine ⟨us, Src.ofSlice w hk _ _ _ us q0 hcell (fun u hu => ?_), q2, q3⟩
     obtain ⟨k, hk, e⟩ := List.getElem_of_mem hu
     obtain ⟨e1, e2⟩ := split_idx (k := k) h0
     have hlt : k / s < ys.length := by
      rw [q0] at hk
      exact Nat.div_lt_of_lt_mul (by rw [Nat.mul_comm]; exact hk)
     have hr := get_getD [] hlt
     obtain ⟨u', q4, q5⟩ := q3 (k / s) (k % s) _ _ hr (get_getD default (by rw [q2 _ _ hr]; exact e2))
     rw [e1, List.getElem?_eq_getElem hk, e] at q4
     cases q4
     exact q5.one
   ·cases h
  ·cases h
 ·rename_i s ys'
  split at h
  ·rename_i p hp'
   split at h
   ·rename_i hs
    cases h
    subst hs
    obtain ⟨hk, _⟩ := sliceOf_info hp'
    cases hx with
    | d hx =>
    cases hx with
    | nil => exact ⟨[], Src.ofNil w hk 0, by simp, by simp⟩
    | @sl a len cap _ _ vs hs hl hc hi hz hw hr =>
     subst hl
     have get : ∀ k, k < ys.length * s → ∃ r x, ys[k / s]? = some r ∧ r[k % s]? = some x := fun k hk => by
      obtain ⟨e1, e2⟩ := split_idx (k := k) h0
      have hlt : k / s < ys.length := Nat.div_lt_of_lt_mul (by rw [Nat.mul_comm]; exact hk)
      have hr := get_getD [] hlt
      exact ⟨_, _, hr, get_getD default (by rw [hz _ _ hr]; exact e2)⟩
     refine ⟨(List.range (ys.length * s)).map fun k => vs (k / s) (k % s), Src.ofSlice w hk _ _ _ _ (by simp) (fun j u hu => ?_) (fun u hu => ?_), hz, fun i j r x q1 q2 => ?_⟩
     ·rw [List.getElem?_map] at hu
      by_cases hj : j < ys.length * s
      ·rw [List.getElem?_range hj] at hu
       cases hu
       obtain ⟨r, x, g1, g2⟩ := get j hj
       have := hw _ _ _ _ g1 g2
       rwa [(split_idx h0).1] at this
      ·rw [List.getElem?_eq_none (by simpa using hj)] at hu
       cases hu
     ·obtain ⟨k, hk, rfl⟩ := List.mem_map.1 hu
      obtain ⟨r, x, g1, g2⟩ := get k (List.mem_range.1 hk)
      exact (hr _ _ _ _ g1 g2).one
     ·have hi : i < ys.length := (List.getElem?_eq_some_iff.1 q1).1
      have hj : j < s := by have := (List.getElem?_eq_some_iff.1 q2).1; rwa [hz _ _ q1] at this
      have hlt : i * s + j < ys.length * s := by have := Nat.mul_le_mul_right s (show i + 1 ≤ ys.length from hi); rw [Nat.add_mul, Nat.one_mul] at this; omega
      refine ⟨vs i j, ?_, hr _ _ _ _ q1 q2⟩
      rw [List.getElem?_map, List.getElem?_range hlt, Option.map_some, (idx_split hj).1, (idx_split hj).2]
   ·cases h
  ·cases h
 ·split at h
  ·rename_i p hp'
   cases h
   obtain ⟨hk, _⟩ := sliceOf_info hp'
   cases hx with
   | d hx =>
   cases hx
   exact ⟨[], Src.ofNil w hk 0, by simp, by simp⟩
  ·cases h
 ·split at h
  ·rename_i p hp'
   cases h
   obtain ⟨hk, _⟩ := sliceOf_info hp'
   cases hx with
   | d hx =>
   cases hx
   exact ⟨[], Src.ofSlice w hk _ 0 _ [] (by simp) (by simp) (by simp), by simp, by simp⟩
  ·cases h
 ·rename_i s
  split at h
  ·rename_i T hT
   split at h
   ·rename_i hd
    split at h
    ·rename_i hs
     cases h
     subst hs
     obtain ⟨dd, h1, h2⟩ := tyd_inv hT
     have h3 := tyd_str (h2.trans hd)
     subst h3
     cases hx with
     | d hx =>
     cases hx
     have hsz : (s.data.toList.map byteRow).length = s.size := by rw [List.length_map, Array.length_toList]; rfl
     rw [hsz]
     refine ⟨byteCells s, Src.ofString w h1 s, fun i r hr => ?_, fun i j r x q1 q2 => ?_⟩
     ·rw [List.getElem?_map] at hr
      cases hb : s.data.toList[i]? with
      | none => rw [hb] at hr; cases hr
      | some b => rw [hb] at hr; cases hr; rfl
     ·rw [List.getElem?_map] at q1
      cases hb : s.data.toList[i]? with
      | none => rw [hb] at q1; cases q1
      | some b =>
       rw [hb] at q1
       cases q1
       cases j with
       | zero =>
        cases q2
        refine ⟨.int .u8 b.toNat, ?_, .v rfl⟩
        rw [Nat.mul_one, Nat.add_zero, byteCells, List.getElem?_map, hb]
        rfl
       | succ j => simp [byteRow] at q2
    ·cases h
   ·cases h
  ·cases h
 ·cases h
theorem run_append_any {t tx ty e : Nat} {E : Ti} (hE : sliceOf P t = some (e, E)) (h0 : 0 < E.sz) (hb0 : 0 < E.by_) {v x : Value} {n k : Nat} {us news : List Value} (hown : w.ownsRow 0 e E.sz v n us) (hs : Src P E.sz tx x k news w) (hby : (n + k) * E.by_ ≤ 140737488355328) :
  ∃ v' w', (Builtin.append_ #[t, tx] ty #[v, x]).run P w = .ok v' w' ∧ w'.ownsRow 0 e E.sz v' (n + k) (us ++ news) ∧ w'.os = w.os ∧ w'.tape = w.tape ∧ w'.output = w.output ∧ w.heap.size ≤ w'.heap.size ∧
   (∀ b, b < w.heap.size → blk v' ≠ some b → w'.heap[b]? = w.heap[b]?) ∧ ∀ b, blk v' = some b → blk v = some b ∨ w.heap.size ≤ b := by
 obtain ⟨ht, hE'⟩ := sliceOf_info hE
 obtain ⟨i, d, z, hi, hu, _, hz, hsz, hbt, _, hzs, _⟩ := ti_info hE'
 rw [← hsz] at h0 hown hs hzs ⊢
 rw [← hbt] at hb0 hby
 have hnk : n + k ≤ 140737488355328 := Nat.le_trans (Nat.le_mul_of_pos_right _ hb0) hby
 have hlen : (us ++ news).length = (n + k) * i.size := by rw [List.length_append, hown.1, hs.newsLen, Nat.add_mul]
 have hmax : n + k ≤ maxLen := by simp only [maxLen]; omega
 have grown : ∀ (base : Option Addr) (cap : Nat), cap < n + k → (Builtin.firstCells i.size n (.slice base n cap)).run P w.drew = .ok us.toArray w.drew →
   ∃ v' w', (Builtin.append_ #[t, tx] ty #[.slice base n cap, x]).run P w = .ok v' w' ∧ w'.ownsRow 0 e i.size v' (n + k) (us ++ news) ∧ w'.os = w.os ∧ w'.tape = w.tape ∧ w'.output = w.output ∧ w.heap.size ≤ w'.heap.size ∧
    (∀ b, b < w.heap.size → blk v' ≠ some b → w'.heap[b]? = w.heap[b]?) ∧ ∀ b, blk v' = some b → w.heap.size ≤ b := fun base cap hg hold => by
  have hr := run_append_grow_src (P := P) w t tx ty e i z ht hi hz base n cap us hold x k news hs hg (by omega) (growslice_fits hg hby)
  have hge := grownCap_ge w (n + k) cap e
  refine ⟨_, _, hr, ⟨hlen, .inr ⟨w.heap.size, _, _, rfl, Nat.zero_le _, heap_alloc_new w.drew _, hge, grownCap_le_maxLen w (n + k) cap e hmax, ?_, ?_⟩⟩, rfl, rfl, rfl, by simp, fun b hb _ => heap_alloc_old w.drew _ b hb, fun b hb => by cases hb; exact Nat.le_refl _⟩
  ·simp only [Array.size_append, List.size_toArray, size_zeroCells, hzs, hlen, ← Nat.add_mul]
   congr 1
   omega
  ·simp only [Array.toList_append]
   rw [← hlen]
   exact List.take_left
 rcases hown.2 with ⟨rfl, rfl⟩ | ⟨g, cap, cur, rfl, _, hg, hnc, hcm, hcs, htk⟩
 ·have hus : us = [] := List.eq_nil_of_length_eq_zero (by simpa using hown.1)
  subst hus
  by_cases hk : k = 0
  ·subst hk
   have hnw : news = [] := List.eq_nil_of_length_eq_zero (by simpa using hs.newsLen)
   subst hnw
   refine ⟨.slice none 0 0, w, ?_, World.ownsRow_nil w 0 e i.size, rfl, rfl, rfl, Nat.le_refl _, fun _ _ _ => rfl, fun b hb => by cases hb⟩
   rcases hs.kind with ⟨e', hk⟩ | hk <;> simp [Builtin.append_, run_underlying ht, run_underlying hk, sizeOf, typeInfo, hi, hs.len, hs.cells]
  ·obtain ⟨v', w', a1, a2, a3, a4, a5, a6, a7, a8⟩ := grown none 0 (by omega) (by rw [run_firstCells_none])
   exact ⟨v', w', a1, a2, a3, a4, a5, a6, a7, fun b hb => .inr (a8 b hb)⟩
 ·by_cases hroom : n + k ≤ cap
  ·have hfit : n * i.size + news.length ≤ cur.size := by rw [hs.newsLen, hcs, ← Nat.add_mul]; exact Nat.mul_le_mul_right _ hroom
   have hst := run_storeCells_at P g (n * i.size) e news 0 cur w hg (by simpa using hfit) hs.one
   simp only [Nat.add_zero] at hst
   refine ⟨.slice (some ⟨g, 0, none⟩) (n + k) cap, w.setRow g (cur.toList.take (n * i.size) ++ news ++ cur.toList.drop (n * i.size + news.length)).toArray, ?_, ⟨hlen, .inr ⟨g, cap, _, rfl, Nat.zero_le _, setRow_heap w g cur _ e _ hg, hroom, hcm, ?_, ?_⟩⟩, rfl, rfl, rfl, by simp, fun b hb hne => setRow_other w g b _ (fun e => hne (by rw [e]; rfl)), fun b hb => .inl hb⟩
   ·rcases hs.kind with ⟨e', hk⟩ | hk <;> simp [Builtin.append_, run_underlying ht, run_underlying hk, sizeOf, typeInfo, hi, hs.len, hroom, hs.cells, Addr.add_lit, hst]
   ·simp only [List.size_toArray, List.length_append, List.length_take, List.length_drop, Array.length_toList]
    omega
   ·rw [htk, ← hlen]
    exact List.take_left
  ·have hcell : ∀ j u, us[j]? = some u → w.drew.cell? ((⟨g, 0, none⟩ : Addr).add j) = some u := fun j u hu => by
    rw [addr_eta _ rfl]
    rw [← htk, List.getElem?_take] at hu
    split at hu
    ·rw [World.cell?_drew]; simp only [World.cell?, hg, Nat.zero_add]; simpa using hu
    ·cases hu
   obtain ⟨v', w', a1, a2, a3, a4, a5, a6, a7, a8⟩ := grown (some ⟨g, 0, none⟩) cap (by omega) (run_firstCells_some w.drew i.size n _ n cap us hown.1 hcell)
   exact ⟨v', w', a1, a2, a3, a4, a5, a6, a7, fun b hb => .inr (a8 b hb)⟩
theorem ownsRow_slice {e sz n : Nat} {v : Value} {us : List Value} (h : w.ownsRow 0 e sz v n us) : ∃ a cap, v = .slice a n cap := by
 rcases h.2 with ⟨rfl, rfl⟩ | ⟨g, cap, _, rfl, _⟩ <;> exact ⟨_, _, rfl⟩
theorem effAppend_ok (I : Inv C m w hp) {t tx ty : Nat} {s x : AV} {us ux : Value} {e : Eff} (he : effAppend P hp.get d t tx s x = some e) (hs : e.sc) (hf : e.new = true → Fr hp d) (hvs : Val w (im C m w hp) m us s) (hvx : Val w (im C m w hp) m ux x) :
  Ok C m w hp d e ((Builtin.append_ #[t, tx] ty #[us, ux]).run P w) := by
 unfold effAppend at he
 split at he
 case h_2 => cases he
 rename_i e0 E hE
 split at he
 case h_2 => cases he
 rename_i ys hys
 split at he
 ·cases he
 rename_i hpos
 have h0 : 0 < E.sz := by omega
 have hb0 : 0 < E.by_ := by omega
 obtain ⟨news, hsrc, hz, hrd⟩ := src_ok I h0 hys hvx
 have main : ∀ (v : Value) (xs : List (List Dat)) (olds : List Value) (hp1 : Hp) (hsub : ∀ o obj, hp1.get o = some obj → hp.get o = some obj) (hown : w.ownsRow 0 e0 E.sz v xs.length olds)
   (hzx : ∀ (i : Nat) (r : List Dat), xs[i]? = some r → r.length = E.sz) (hrx : ∀ (i j : Nat) (r : List Dat) (x : Dat), xs[i]? = some r → r[j]? = some x → ∃ u, olds[i * E.sz + j]? = some u ∧ Rd w (im C m w hp) u x)
   (hbv : ∀ b, blk v = some b → (C.own0 b ∨ C.w0.heap.size ≤ b) ∧ ¬ im C m w hp b ∧ ∀ o obj, hp1.get o = some obj → o ≠ d → blk (m o) ≠ some b)
   (hby : (xs.length + ys.length) * E.by_ ≤ 140737488355328) (hf : Fr hp d),
   ∃ v' w' m', (Builtin.append_ #[t, tx] ty #[v, ux]).run P w = .ok v' w' ∧ (∀ o, o ≠ d → m' o = m o) ∧ Inv C m' w' ((d, some (.row e0 E.sz (xs ++ ys))) :: hp1) ∧ Val w' (im C m' w' ((d, some (.row e0 E.sz (xs ++ ys))) :: hp1)) m' v' (.row d (xs ++ ys).length) ∧
    ∀ b, im C m w hp b → im C m' w' ((d, some (.row e0 E.sz (xs ++ ys))) :: hp1) b ∧ w'.heap[b]? = w.heap[b]? := fun v xs olds hp1 hsub hown hzx hrx hbv hby hf => by
  obtain ⟨v', w', a1, a2, a3, a4, a5, a6, a7, a8⟩ := run_append_any (P := P) (ty := ty) hE h0 hb0 hown hsrc hby
  let m' : Nat → Value := fun o => if o = d then v' else m o
  have md : m' d = v' := if_pos rfl
  have mo : ∀ o, o ≠ d → m' o = m o := fun o h => if_neg h
  obtain ⟨I', k⟩ := I.put (m' := m') (w' := w') (hp1 := hp1) hsub d (.row e0 E.sz (xs ++ ys)) mo (.inr fun o' x' h' _ => (hf o' x' (hsub o' x' h')).2) a3 a4 a5 a6
   (fun k hk hne => a7 k hk (by rw [md] at hne; exact hne))
   (fun b hb => by
    rw [md] at hb
    rcases a8 b hb with h | h
    ·exact hbv b h
    ·obtain ⟨b1, b2, b3⟩ := I.new_blk hsub b h
     exact ⟨b1, b2, fun o obj ho _ => b3 o obj ho⟩)
   (fun im' hk => by
    have hl : olds.length = xs.length * E.sz := hown.1
    refine ⟨olds ++ news, by rw [md, List.length_append]; exact a2, fun i r hr => ?_, fun i j r x q1 q2 => ?_⟩
    ·rw [List.getElem?_append] at hr
     split at hr
     ·exact hzx i r hr
     ·exact hz _ r hr
    ·rw [List.getElem?_append] at q1
     split at q1
     ·rename_i hi
      obtain ⟨u, q3, q4⟩ := hrx i j r x q1 q2
      exact ⟨u, by rw [List.getElem?_append_left (List.getElem?_eq_some_iff.1 q3).1]; exact q3, q4.mono hk⟩
     ·rename_i hi
      obtain ⟨u, q3, q4⟩ := hrd _ j r x q1 q2
      have hm : xs.length * E.sz ≤ i * E.sz := Nat.mul_le_mul_right _ (by omega)
      refine ⟨u, ?_, q4.mono hk⟩
      rw [List.getElem?_append_right (by omega), hl, ← q3]
      congr 1
      rw [Nat.sub_mul]
      omega)
  obtain ⟨a, cap, hsl⟩ := ownsRow_slice a2
  refine ⟨v', w', m', a1, mo, I', ?_, k⟩
  rw [hsl, List.length_append]
  exact .row (by rw [md, hsl])
 split at he
 ·rename_i o n
  split at he
  ·rename_i e1 s1 xs ho
   split at he
   ·rename_i hc
    obtain ⟨rfl, rfl⟩ := hc
    cases he
    obtain ⟨olds, q1, q2, q3⟩ := I.live o _ ho
    cases hvs with
    | @row _ _ cap a hm =>
    have hsub : ∀ o' obj, Hp.get ((o, none) :: hp) o' = some obj → hp.get o' = some obj := fun o' obj h => by
     rw [Hp.get_cons] at h
     split at h
     ·cases h
     ·exact h
    obtain ⟨v', w', m', b1, b2, b3, b4, b5⟩ := main (m o) xs olds ((o, none) :: hp) hsub q1 q2 q3 (fun b hb => ⟨I.own o _ b ho hb, I.not_im ho hb, fun o' x' ho' _ e => by
     have hne : o ≠ o' := fun q => by subst q; rw [Hp.get_cons, if_pos rfl] at ho'; cases ho'
     exact I.sep o o' _ x' b ho (hsub o' x' ho') hne hb e⟩) hs (hf rfl)
    rw [hm] at b1
    exact ⟨v', w', m', b1, fun o h => b2 o (h rfl), b3, b4, b5⟩
   ·cases he
  ·cases he
 ·cases he
  cases hvs with
  | d hvs =>
  cases hvs
  obtain ⟨v', w', m', b1, b2, b3, b4, b5⟩ := main (.slice none 0 0) [] [] hp (fun _ _ h => h) (World.ownsRow_nil w 0 e0 E.sz) (by simp) (by simp) (fun b hb => by cases hb) (by simpa using hs) (hf rfl)
  exact ⟨v', w', m', b1, fun o h => b2 o (h rfl), b3, b4, b5⟩
 ·cases he
end
end Go.Proofs.Ytgbialeahdoelaa.Eng

end

section
namespace Go.Proofs.Ytgbialeahdoelaa.Eng
open Go
set_option linter.unusedVariables false
set_option linter.unusedSimpArgs false
def fillA (place : Nat → Option (Nat × Nat)) (cs : List AV) : List (Nat × AV) → Option (List AV)
 | [] => some cs
 | (i, x) :: rest => match place i with
  | some (off, size) => if x.cells.length = size ∧ off + x.cells.length ≤ cs.length ∧ allCell x.cells = true then fillA place (put cs off x.cells) rest else none
  | none => none
def placesOf (P : Program) : List (Nat × Nat) → Option (List (Nat × Nat))
 | [] => some []
 | p :: l => match ti P p.2, placesOf P l with
  | some T, some r => some ((p.1, T.sz) :: r)
  | _, _ => none
def effBuild (P : Program) (t : Nat) (parts : List (Nat × AV)) : Option Eff :=
 match ti P t with
 | some T => match T.d with
  | .struct fs => match placesOf P fs with
   | some l => match fillA (fun i => l[i]?) (T.z.map fun u => .d (.v u)) parts with
    | some cs => some { sc := True, val := .agg cs }
    | none => none
   | none => none
  | .array _ e => match ti P e with
   | some E => match fillA (fun i => some (i * E.sz, E.sz)) (T.z.map fun u => .d (.v u)) parts with
    | some cs => some { sc := True, val := .agg cs }
    | none => none
   | none => none
  | _ => none
 | none => none
def chunk (sz : Nat) : Nat → List Dat → List (List Dat)
 | 0, _ => []
 | n + 1, l => l.take sz :: chunk sz n (l.drop sz)
def effBuildSlice (P : Program) (h : Nat → Option AObj) (d t n : Nat) (parts : List (Nat × AV)) : Option Eff :=
 match sliceOf P t with
 | some (e, E) => if n * E.sz ≤ 16777216 ∧ 0 < E.sz then
   match fillA (fun i => some (i * E.sz, E.sz)) (seg (fun i => .d (.v (E.z.getD (i % E.sz) default))) 0 (n * E.sz)) parts with
   | some cs => match toDs h cs with
    | some (xs, l) => some { sc := True, val := .row d n, up := (d, some (.row e E.sz (chunk E.sz n xs))) :: drops l, new := true }
    | none => none
   | none => none else none
 | none => none
def effMakeSlice (P : Program) (d t : Nat) : AV → AV → Option Eff
 | .d (.v (.int .i64 n)), .d (.v (.int .i64 c)) => match sliceOf P t with
  | some (e, E) => if 0 < E.sz ∧ 0 < E.by_ then some { sc := 0 ≤ n ∧ n ≤ c ∧ c * E.by_ ≤ 281474976710656, val := .row d n.toNat, up := [(d, some (.row e E.sz (List.replicate n.toNat (E.z.map fun u => .v u))))], new := true } else none
  | none => none
 | _, _ => none
theorem chunk_get (sz : Nat) : ∀ (n : Nat) (l : List Dat) (i : Nat), i < n → (chunk sz n l)[i]? = some ((l.drop (i * sz)).take sz)
 | 0, _, _, h => by omega
 | n + 1, l, 0, _ => by simp [chunk]
 | n + 1, l, i + 1, h => by
  simp only [chunk, List.getElem?_cons_succ]
  rw [chunk_get sz n (l.drop sz) i (by omega), List.drop_drop, Nat.add_mul, Nat.one_mul, Nat.add_comm]
theorem chunk_length (sz : Nat) : ∀ (n : Nat) (l : List Dat), (chunk sz n l).length = n
 | 0, _ => rfl
 | n + 1, l => by simp [chunk, chunk_length sz n]
section
variable {P : Program} {C : Ctx} {m : Nat → Value} {w : World} {hp : Hp} {d : Nat} {sc : Prop}
theorem foldl_set (us : Array Value) (off : Nat) : ∀ (vs : List Value) (k : Nat) (us : Array Value), off + k + vs.length ≤ us.size →
  ((vs.zipIdx k).foldl (fun cs (c, j) => cs.setIfInBounds (off + j) c) us) = (put us.toList (off + k) vs).toArray
 | [], k, us, _ => by simp [put]
 | v :: vs, k, us, h => by
  simp only [List.length_cons] at h
  simp only [List.zipIdx_cons, List.foldl_cons]
  rw [foldl_set us off vs (k + 1) _ (by simp; omega)]
  apply Array.ext'
  simp only [Array.toList_setIfInBounds]
  apply List.ext_getElem?
  intro i
  rw [put_get (by simp; omega), put_get (by simp; omega)]
  simp only [List.length_cons]
  by_cases h1 : off + k = i
  ·rw [if_neg (by omega), if_pos (by omega), ← h1, List.getElem?_set_self (by simp; omega), Nat.sub_self]
   rfl
  ·by_cases h2 : off + (k + 1) ≤ i ∧ i < off + (k + 1) + vs.length
   ·rw [if_pos h2, if_pos (by omega), show i - (off + k) = (i - (off + (k + 1))) + 1 by omega, List.getElem?_cons_succ]
   ·rw [if_neg h2, if_neg (by omega), List.getElem?_set, if_neg h1]
theorem fill_ok {imp : Nat → Prop} (place : Nat → Option (Nat × Nat)) : ∀ (parts : List (Nat × Value)) (avs : List (Nat × AV)) (us : Array Value) (cs cs' : List AV),
  parts.length = avs.length → (∀ (i : Nat) (p : Nat × Value) (q : Nat × AV), parts[i]? = some p → avs[i]? = some q → p.1 = q.1 ∧ Val w imp m p.2 q.2) →
  us.size = cs.length → (∀ (i : Nat) (u : Value) (c : AV), us[i]? = some u → cs[i]? = some c → Val w imp m u c) → allCell cs = true → fillA place cs avs = some cs' →
  ∃ us', Instr.fill place us parts = some us' ∧ us'.size = cs'.length ∧ cs'.length = cs.length ∧ (∀ (i : Nat) (u : Value) (c : AV), us'[i]? = some u → cs'[i]? = some c → Val w imp m u c) ∧ allCell cs' = true
 | [], [], us, cs, cs', _, _, hn, hv, hc, h => by
  cases h
  exact ⟨us, rfl, hn, rfl, hv, hc⟩
 | (i, v) :: parts, (j, x) :: avs, us, cs, cs', hl, hp, hn, hv, hc, h => by
  obtain ⟨e, hx⟩ := hp 0 _ _ rfl rfl
  simp only at e hx
  subst e
  simp only [fillA] at h
  simp only [Instr.fill]
  split at h
  ·rename_i off size hpl
   split at h
   ·rename_i hcond
    obtain ⟨h1, h2, h3⟩ := hcond
    obtain ⟨g1, g2, g3⟩ := hx.cells h3
    have hle : off + v.cells.toList.length ≤ us.toList.length := by simp; omega
    have hz : ∀ (v : Value), v.cells.zipIdx.foldl (fun cs (c, j) => cs.setIfInBounds (off + j) c) us = (v.cells.toList.zipIdx 0).foldl (fun cs (c, j) => cs.setIfInBounds (off + j) c) us := fun v => by
     rw [← Array.foldl_toList, Array.toList_zipIdx]
    rw [hpl]
    simp only
    rw [if_neg (by simp; omega), hz, foldl_set us off v.cells.toList 0 us (by simpa using hle), Nat.add_zero]
    obtain ⟨us', q1, q2, q3, q4⟩ := fill_ok place parts avs (put us.toList off v.cells.toList).toArray (put cs off x.cells) cs' (by simpa using hl) (fun i p q e1 e2 => hp (i + 1) p q (by simpa using e1) (by simpa using e2))
     (by rw [List.size_toArray, put_length hle, put_length h2]; simpa using hn)
     (fun i u c e1 e2 => by
      rw [List.getElem?_toArray, put_get hle] at e1
      rw [put_get h2] at e2
      rw [Array.length_toList, g1] at e1
      split at e1
      ·rename_i hi; rw [if_pos hi] at e2; exact g2 _ _ _ (by simpa using e1) e2
      ·rename_i hi; rw [if_neg hi] at e2; exact hv _ _ _ (by simpa using e1) e2)
     (List.all_eq_true.2 fun c hcm => by
      obtain ⟨k, hk, e⟩ := List.getElem_of_mem hcm
      have q := List.getElem?_eq_getElem hk
      rw [e, put_get h2] at q
      split at q
      ·exact List.all_eq_true.1 h3 c (List.mem_of_getElem? q)
      ·exact List.all_eq_true.1 hc c (List.mem_of_getElem? q)) h
    exact ⟨us', q1, q2, by rw [q3, put_length h2], q4⟩
   ·cases h
  ·cases h
 | [], _ :: _, _, _, _, hl, _, _, _, _, _ => by simp at hl
 | _ :: _, [], _, _, _, hl, _, _, _, _, _ => by simp at hl
theorem zero_vals {imp : Nat → Prop} {l : List Value} (h : l.all Value.oneCell' = true) : (∀ (i : Nat) (u : Value) (c : AV), l.toArray[i]? = some u → (l.map fun u => AV.d (.v u))[i]? = some c → Val w imp m u c) ∧ allCell (l.map fun u => AV.d (.v u)) = true := by
 refine ⟨fun i u c h1 h2 => ?_, List.all_eq_true.2 fun c hc => ?_⟩
 ·rw [List.getElem?_toArray] at h1
  rw [List.getElem?_map, h1] at h2
  cases h2
  exact .d (.v (List.all_eq_true.1 h u (List.mem_of_getElem? h1)))
 ·obtain ⟨u, _, rfl⟩ := List.mem_map.1 hc
  rfl
theorem run_places : ∀ (fs : List Field) (l : List (Nat × Nat)), placesOf P (fs.map fun f => (f.offset, f.type)) = some l →
  (fs.mapM fun f => (do pure (f.offset, ← sizeOf f.type) : Sem (Nat × Nat))).run P w = .ok l w
 | [], l, h => by cases h; simp
 | f :: fs, l, h => by
  simp only [List.map_cons, placesOf] at h
  split at h
  ·rename_i T r hT hr
   cases h
   simp only [List.mapM_cons, Sem.run_bind, run_sizeOf hT, Result.andThen_ok, Sem.run_pure, run_places fs r hr]
  ·cases h
theorem effBuild_ok (I : Inv C m w hp) {t : Nat} {parts : List (Nat × Value)} {avs : List (Nat × AV)} {e : Eff} (he : effBuild P t avs = some e) (hl : parts.length = avs.length)
  (hv : ∀ (i : Nat) (p : Nat × Value) (q : Nat × AV), parts[i]? = some p → avs[i]? = some q → p.1 = q.1 ∧ Val w (im C m w hp) m p.2 q.2) : Ok C m w hp d e ((Instr.build t parts.toArray).run P w) := by
 unfold effBuild at he
 split at he
 case h_2 => cases he
 rename_i T hT
 obtain ⟨i, dd, z, _, h1, h2, h3, _, _, hz, hzn, hone⟩ := ti_info hT
 obtain ⟨z', hz1, hz2⟩ := run_zero (P := P) (w := w) hT
 obtain ⟨zv, zc⟩ := zero_vals (w := w) (imp := im C m w hp) (m := m) hone
 have hzc : z'.cells = T.z.toArray := by rw [← hz2]
 split at he
 ·rename_i fs hd
  rw [hd] at h2
  cases dd <;> simp [tyd] at h2
  rename_i fields
  split at he
  ·rename_i l hpl
   split at he
   ·rename_i cs hcs
    cases he
    obtain ⟨us', q1, q2, _, q3, _⟩ := fill_ok (w := w) (imp := im C m w hp) (m := m) (fun i => l[i]?) parts avs T.z.toArray _ cs hl hv (by simp) zv zc hcs
    have hm : (fields.mapM fun f => (do pure (f.offset, ← sizeOf f.type) : Sem (Nat × Nat))).run P w = .ok l.toArray w := by
     rw [Array.mapM_eq_mapM_toList, Sem.run_map, run_places fields.toList l (by rw [h2]; exact hpl)]
     rfl
    have hfun : (fun i : Nat => l.toArray[i]?) = fun i => l[i]? := by funext i; simp
    simp only [Instr.build, Sem.run_bind, hz1, Result.andThen_ok, run_underlying h1, hm, hzc, hfun, q1, Sem.run_pure]
    exact Ok.same I (.agg q2 q3)
   ·cases he
  ·cases he
 ·rename_i n e0 hd
  rw [hd] at h2
  have h4 := tyd_array h2
  subst h4
  split at he
  ·rename_i E hE
   split at he
   ·rename_i cs hcs
    cases he
    obtain ⟨us', q1, q2, _, q3, _⟩ := fill_ok (w := w) (imp := im C m w hp) (m := m) (fun i => some (i * E.sz, E.sz)) parts avs T.z.toArray _ cs hl hv (by simp) zv zc hcs
    simp only [Instr.build, Sem.run_bind, hz1, Result.andThen_ok, run_underlying h1, run_sizeOf hE, hzc, q1, Sem.run_pure]
    exact Ok.same I (.agg q2 q3)
   ·cases he
  ·cases he
 ·cases he
end
end Go.Proofs.Ytgbialeahdoelaa.Eng

end
