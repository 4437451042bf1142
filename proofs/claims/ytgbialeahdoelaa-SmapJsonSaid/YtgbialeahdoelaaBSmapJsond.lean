/- SmapJson: part 4 of 15. -/
import Derived.Test.YtgbialeahdoelaaBSmapJsonc
import Derived.Below
import Derived.Deep.Draws
import Derived.Deep.AppendLies
import Derived.Maps.AppendAt
import Derived.OwnWalk
import Derived.Laws.BytesArg
import Derived.Laws.MakeOwn
import Derived.Laws.OwnMore
import Derived.Deep.OwnRows
import Derived.Tactics
import Derived.Lib.ConvBytes
import Derived.Laws.Slices
import Derived.WalkKit
import Derived.KernelRfl
import Derived.RowKit3
import Derived.Deep.LoopGhost
import Derived.Deep.QuietTactic
import Derived.BigQuiet
import Derived.WideLaws
import Derived.Deep.DeepCutAuto
import Derived.Deep.CutBlock
import Derived.Deep.RegionHeld3
import Derived.Laws.Rows
import Derived.Lib.AppendStr
import Derived.ArgAppend
import Derived.Laws.IdiomCopy
import Derived.RowKit
import Derived.Laws.BitsLemmas
import Derived.Lib.Bytes
section
namespace Go.Proofs.Ytgbialeahdoelaa.Eng
open Go
set_option linter.unusedVariables false
set_option linter.unusedSimpArgs false
def mtE (ρ : Nat → Nat) (born : List Nat) (c' c : AV) : Prop := Mt ρ born c' c ∧ c ≠ .bad
def slR (ρ : Nat → Nat) (born : List Nat) (sl : List (Nat × AV)) : List (Nat × AV) → Prop
 | [] => True
 | p :: l => mtE ρ born (lk sl (.tmp p.1)) p.2 ∧ slR ρ born sl l
def hpR (ρ : Nat → Nat) (born : List Nat) (hp : Hp) : Hp → Prop
 | [] => True
 | (o, some obj) :: l => (if o ∈ born then (match obj with | .row _ _ xs => xs = [] | _ => False) else (match hp.get (ρ o) with | some obj' => MtO ρ born obj' obj | none => False)) ∧ hpR ρ born hp l
 | (_, none) :: l => hpR ρ born hp l
def idsR (u : List Nat) : List (Nat × AV) → Prop
 | [] => True
 | p :: l => subL p.2.ids u = true ∧ idsR u l
theorem slR_all {ρ : Nat → Nat} {born : List Nat} {sl : List (Nat × AV)} : ∀ {l : List (Nat × AV)}, slR ρ born sl l → ∀ p ∈ l, ∃ c', sl.lookup p.1 = some c' ∧ Mt ρ born c' p.2
 | q :: l, h, p, hp => by
  rcases List.mem_cons.mp hp with rfl | hp
  ·obtain ⟨⟨h1, h2⟩, -⟩ := h
   simp only [lk] at h1
   cases e : sl.lookup p.1 with
   | some c' => rw [e] at h1; exact ⟨c', rfl, h1⟩
   | none =>
    rw [e] at h1
    exfalso
    revert h1 h2
    cases p.2 <;> simp [Mt]
  ·exact slR_all h.2 p hp
theorem hpR_all {ρ : Nat → Nat} {born : List Nat} {hp : Hp} : ∀ {l : Hp}, hpR ρ born hp l → ∀ p ∈ l, match p.2 with
  | some obj => if p.1 ∈ born then (match obj with | .row _ _ xs => xs = [] | _ => False) else ∃ obj', hp.get (ρ p.1) = some obj' ∧ MtO ρ born obj' obj
  | none => True
 | (o, some obj) :: l, h, p, hm => by
  rcases List.mem_cons.mp hm with rfl | hm
  ·have h1 := h.1
   dsimp only at h1 ⊢
   split
   ·rw [if_pos ‹_›] at h1; exact h1
   ·rw [if_neg ‹_›] at h1
    cases e : hp.get (ρ o) with
    | some obj' => rw [e] at h1; exact ⟨obj', rfl, h1⟩
    | none => rw [e] at h1; exact h1.elim
  ·exact hpR_all h.2 p hm
 | (o, none) :: l, h, p, hm => by
  rcases List.mem_cons.mp hm with rfl | hm
  ·trivial
  ·exact hpR_all (l := l) h p hm
theorem idsR_all {u : List Nat} : ∀ {l : List (Nat × AV)}, idsR u l → (l.all fun p => subL p.2.ids u) = true
 | [], _ => rfl
 | p :: l, h => by simp only [List.all_cons, Bool.and_eq_true]; exact ⟨h.1, idsR_all h.2⟩
def pr (ρ : Nat → Nat) (i : Nat) : Nat := if 10000 ≤ i then i else ρ i
theorem Le.of {n : Nat} {u u2 : List Nat} {sl sl2 : List (Nat × AV)} {hp hp2 : Hp} (ρ : Nat → Nat) (born : List Nat)
  (h : slR (pr ρ) born sl sl2 ∧ hpR (pr ρ) born hp hp2 ∧ distinct (pr ρ) born (liveIds hp2) ∧ idsR u2 sl2 ∧ subL (upIds hp2) u2 = true) (hb : (born.all fun i => Nat.blt i 10000) = true := by rfl) : Le ⟨n, u, sl, hp⟩ ⟨n, u2, sl2, hp2⟩ :=
 ⟨[], pr ρ, born, fun i hi => ⟨if_pos hi, fun h => Nat.lt_irrefl _ (Nat.lt_of_lt_of_le (by simpa using List.all_eq_true.1 hb i h) hi)⟩, by rw [St.frz_nil]; exact ⟨rfl, slR_all h.1, hpR_all h.2.1, h.2.2.1, idsR_all h.2.2.2.1, h.2.2.2.2⟩⟩
theorem wpc_loop {P : Program} {Γ : Gam} {D : Array Oper → St → (St → Prop) → Prop} {x : Code} {Q : Exit → St → Prop} {s : St} {α : Type} (S : α → St) (I : α → Prop) (μ : α → Nat) (a0 : α) (h0 : I a0) (hle : Le s (S a0))
  (hs : ∀ a, I a → wpc P Γ D x (thenS (fun s' => ∃ b, μ b < μ a ∧ I b ∧ Le s' (S b)) Q) (S a)) : wpc P Γ D (.loop x) Q s := by
 refine ⟨fun n s2 => ∃ a, I a ∧ n = μ a ∧ s2 = S a, ⟨_, _, hle, a0, h0, rfl, rfl⟩, ?_⟩
 rintro n s2 ⟨a, ha, rfl, rfl⟩
 have e : (fun s' => ∃ n' s2, n' < μ a ∧ Le s' s2 ∧ ∃ b, I b ∧ n' = μ b ∧ s2 = S b) = fun s' => ∃ b, μ b < μ a ∧ I b ∧ Le s' (S b) := by
  funext s'
  apply propext
  constructor
  ·rintro ⟨n', s2, h1, h2, b, h3, rfl, rfl⟩; exact ⟨b, h1, h3, h2⟩
  ·rintro ⟨b, h1, h3, h2⟩; exact ⟨_, _, h1, h2, b, h3, rfl, rfl⟩
 rw [e]
 exact hs a ha
section
variable {ρ : Nat → Nat} {born : List Nat}
theorem slR_nil (sl : List (Nat × AV)) : slR ρ born sl [] = True := rfl
theorem slR_cons (sl : List (Nat × AV)) (d : Nat) (c : AV) (l : List (Nat × AV)) : slR ρ born sl ((d, c) :: l) = (mtE ρ born (lk sl (.tmp d)) c ∧ slR ρ born sl l) := rfl
theorem hpR_nil (hp : Hp) : hpR ρ born hp [] = True := rfl
theorem hpR_cells (hp : Hp) (o e : Nat) (cs : List AV) (l : Hp) : hpR ρ born hp ((o, some (.cells e cs)) :: l) = ((if o ∈ born then False else (match hp.get (ρ o) with | some obj' => MtO ρ born obj' (.cells e cs) | none => False)) ∧ hpR ρ born hp l) := rfl
theorem hpR_row (hp : Hp) (o e s : Nat) (xs : List (List Dat)) (l : Hp) : hpR ρ born hp ((o, some (.row e s xs)) :: l) = ((if o ∈ born then xs = [] else (match hp.get (ρ o) with | some obj' => MtO ρ born obj' (.row e s xs) | none => False)) ∧ hpR ρ born hp l) := rfl
theorem idsR_nil (u : List Nat) : idsR u [] = True := rfl
theorem idsR_cons (u : List Nat) (d : Nat) (c : AV) (l : List (Nat × AV)) : idsR u ((d, c) :: l) = (subL c.ids u = true ∧ idsR u l) := rfl
theorem mtE_v (x' x : Value) : mtE ρ born (.d (.v x')) (.d (.v x)) = (x' = x) := by simp [mtE, Mt]
theorem mtE_sl (s' s : Nat) (x' x : List (List Dat)) : mtE ρ born (.d (.sl s' x')) (.d (.sl s x)) = (s' = s ∧ x' = x) := by simp [mtE, Mt]
theorem mtE_nil (s : Nat) (x : List (List Dat)) : mtE ρ born (.d (.v (.slice none 0 0))) (.d (.sl s x)) = (x = []) := by simp [mtE, Mt]
theorem mtE_refl (x : Dat) : mtE ρ born (.d x) (.d x) = True := by simp [mtE, Mt]
theorem mtE_row (o' n' o n : Nat) : mtE ρ born (.row o' n') (.row o n) = (o ∉ born ∧ o' = ρ o ∧ n' = n) := by simp [mtE, Mt]
theorem mtE_born (x : Dat) (o n : Nat) : mtE ρ born (.d x) (.row o n) = (x = .v (.slice none 0 0) ∧ o ∈ born ∧ n = 0) := by simp [mtE, Mt]
theorem mtE_ptr (o' f' o f : Nat) : mtE ρ born (.ptr o' f') (.ptr o f) = (o ∉ born ∧ o' = ρ o ∧ f' = f) := by simp [mtE, Mt]
theorem mtE_rp (o' s' i' f' o s i f : Nat) : mtE ρ born (.rp o' s' i' f') (.rp o s i f) = (o ∉ born ∧ o' = ρ o ∧ s' = s ∧ i' = i ∧ f' = f) := by simp [mtE, Mt]
theorem mtE_agg (l' l : List AV) : mtE ρ born (.agg l') (.agg l) = Mt.MtL ρ born l' l := by simp [mtE, Mt]
theorem mtE_tup (l' l : List AV) : mtE ρ born (.tup l') (.tup l) = Mt.MtL ρ born l' l := by simp [mtE, Mt]
theorem mtE_fn (g' g : Nat) (l' l : List AV) : mtE ρ born (.fn g' l') (.fn g l) = (g' = g ∧ Mt.MtL ρ born l' l) := by simp [mtE, Mt]
theorem mtE_ep (c' c : List Dat) (f' f : Nat) : mtE ρ born (.ep c' f') (.ep c f) = (c' = c ∧ f' = f) := by simp [mtE, Mt]
theorem MtL_nil : Mt.MtL ρ born [] [] = True := rfl
theorem MtL_cons (c' c : AV) (l' l : List AV) : Mt.MtL ρ born (c' :: l') (c :: l) = (Mt ρ born c' c ∧ Mt.MtL ρ born l' l) := rfl
theorem Mt_v (x' x : Value) : Mt ρ born (.d (.v x')) (.d (.v x)) = (x' = x) := by simp [Mt]
theorem Mt_sl (s' s : Nat) (x' x : List (List Dat)) : Mt ρ born (.d (.sl s' x')) (.d (.sl s x)) = (s' = s ∧ x' = x) := by simp [Mt]
theorem Mt_nil (s : Nat) (x : List (List Dat)) : Mt ρ born (.d (.v (.slice none 0 0))) (.d (.sl s x)) = (x = []) := by simp [Mt]
theorem Mt_refl (x : Dat) : Mt ρ born (.d x) (.d x) = True := by simp [Mt]
theorem Mt_row (o' n' o n : Nat) : Mt ρ born (.row o' n') (.row o n) = (o ∉ born ∧ o' = ρ o ∧ n' = n) := rfl
theorem Mt_born (x : Dat) (o n : Nat) : Mt ρ born (.d x) (.row o n) = (x = .v (.slice none 0 0) ∧ o ∈ born ∧ n = 0) := rfl
theorem Mt_ptr (o' f' o f : Nat) : Mt ρ born (.ptr o' f') (.ptr o f) = (o ∉ born ∧ o' = ρ o ∧ f' = f) := rfl
theorem MtO_cells (e' e : Nat) (l' l : List AV) : MtO ρ born (.cells e' l') (.cells e l) = (e' = e ∧ Mt.MtL ρ born l' l ∧ allCell l = true) := rfl
theorem MtO_row (e' s' e s : Nat) (xs' xs : List (List Dat)) : MtO ρ born (.row e' s' xs') (.row e s xs) = (e' = e ∧ s' = s ∧ xs' = xs) := rfl
end
mutual
def nn (z : Nat → Nat) : Dat → Dat
 | .v u => .v u
 | .sl sz xs => .sl sz (nnR z xs)
def nnR (z : Nat → Nat) : List (List Dat) → List (List Dat)
 | [] => []
 | r :: xs => nnC z 0 r :: nnR z xs
def nnC (z : Nat → Nat) : Nat → List Dat → List Dat
 | _, [] => []
 | k, .v (.slice none 0 0) :: cs => .sl (z k) [] :: nnC z (k + 1) cs
 | k, c :: cs => nn z c :: nnC z (k + 1) cs
end
theorem nnR_get (z : Nat → Nat) : ∀ (xs : List (List Dat)) (i : Nat) (r' : List Dat), (nnR z xs)[i]? = some r' → ∃ r, xs[i]? = some r ∧ r' = nnC z 0 r
 | [], _, _, h => by simp [nnR] at h
 | r :: xs, 0, r', h => by simp only [nnR, List.getElem?_cons_zero, Option.some.injEq] at h; exact ⟨r, rfl, h.symm⟩
 | r :: xs, i + 1, r', h => by
  simp only [nnR, List.getElem?_cons_succ] at h
  exact nnR_get z xs i r' h
theorem nnC_get (z : Nat → Nat) : ∀ (r : List Dat) (k j : Nat) (x' : Dat), (nnC z k r)[j]? = some x' → ∃ x, r[j]? = some x ∧ ((x = .v (.slice none 0 0) ∧ x' = .sl (z (k + j)) []) ∨ x' = nn z x)
 | [], _, _, _, h => by simp [nnC] at h
 | c :: cs, k, 0, x', h => by
  unfold nnC at h
  split at h
  ·rename_i e; cases e
  ·rename_i e; injection e with e1 e2; subst e1 e2
   simp only [List.getElem?_cons_zero, Option.some.injEq] at h
   exact ⟨_, rfl, .inl ⟨rfl, h.symm⟩⟩
  ·rename_i e; injection e with e1 e2; subst e1 e2
   simp only [List.getElem?_cons_zero, Option.some.injEq] at h
   exact ⟨_, rfl, .inr h.symm⟩
 | c :: cs, k, j + 1, x', h => by
  have h2 : (nnC z (k + 1) cs)[j]? = some x' := by
   unfold nnC at h
   split at h
   ·rename_i e; cases e
   ·rename_i e; injection e with e1 e2; subst e1 e2; exact h
   ·rename_i e; injection e with e1 e2; subst e1 e2; exact h
  obtain ⟨x, h3, h4⟩ := nnC_get z cs (k + 1) j x' h2
  exact ⟨x, h3, by rwa [show k + 1 + j = k + (j + 1) by omega] at h4⟩
theorem nnC_length (z : Nat → Nat) : ∀ (r : List Dat) (k : Nat), (nnC z k r).length = r.length
 | [], _ => by simp [nnC]
 | c :: cs, k => by
  unfold nnC
  split
  ·rename_i e; cases e
  ·rename_i e; injection e with e1 e2; subst e1 e2; simp [nnC_length z cs]
  ·rename_i e; injection e with e1 e2; subst e1 e2; simp [nnC_length z cs]
theorem nnR_length (z : Nat → Nat) : ∀ (xs : List (List Dat)), (nnR z xs).length = xs.length
 | [] => rfl
 | _ :: xs => by simp [nnR, nnR_length z xs]
theorem Rd.nn {w : World} {im1 : Nat → Prop} (z : Nat → Nat) {u : Value} {x : Dat} (h : Rd w im1 u x) : Rd w im1 u (nn z x) := by
 induction h with
 | v h => simp only [Eng.nn]; exact .v h
 | nil sz => simp only [Eng.nn, nnR]; exact .nil sz
 | @sl a len cap sz xs vs hs hl hc hi hz hw hr ih =>
  have he : nnR z xs ≠ [] → xs ≠ [] := fun h e => h (by rw [e]; rfl)
  simp only [Eng.nn]
  refine .sl vs (fun h => hs (he h)) (by rw [nnR_length]; exact hl) hc (fun h => hi (he h)) (fun i r' h1 => ?_) (fun i j r' x' h1 h2 => ?_) (fun i j r' x' h1 h2 => ?_)
  ·obtain ⟨r, h2, rfl⟩ := nnR_get z xs i r' h1
   rw [nnC_length]; exact hz i r h2
  ·obtain ⟨r, h3, rfl⟩ := nnR_get z xs i r' h1
   obtain ⟨x, h4, _⟩ := nnC_get z r 0 j x' h2
   exact hw i j r x h3 h4
  ·obtain ⟨r, h3, rfl⟩ := nnR_get z xs i r' h1
   obtain ⟨x, h4, h5⟩ := nnC_get z r 0 j x' h2
   rcases h5 with ⟨rfl, rfl⟩ | rfl
   ·have := hr i j r _ h3 h4
    generalize vs i j = v at this
    cases this
    exact .nil _
   ·exact ih i j r x h3 h4
inductive NT where
 | k
 | s (sz : Nat)
 | a (l : List NT)
 | r (z : Nat → Nat)
def NT.nz : NT → AV → AV
 | .s sz, .d (.v (.slice none 0 0)) => .d (.sl sz [])
 | .a l, .agg cs => .agg (nzL l cs)
 | .r z, .d (.sl sz xs) => .d (nn z (.sl sz xs))
 | _, c => c
where nzL : List NT → List AV → List AV
 | t :: l, c :: cs => t.nz c :: nzL l cs
 | _, cs => cs
theorem nzL_length : ∀ (T : List NT) (l : List AV), (NT.nz.nzL T l).length = l.length
 | [], [] => rfl
 | [], _ :: _ => rfl
 | _ :: _, [] => rfl
 | _ :: T, _ :: l => by simp [NT.nz.nzL, nzL_length T l]
mutual
theorem Val.nz {w : World} {im1 : Nat → Prop} {m : Nat → Value} : ∀ (t : NT) {u : Value} {c : AV}, Val w im1 m u c → Val w im1 m u (t.nz c)
 | .k, u, c, h => h
 | .s sz, u, c, h => by
  unfold NT.nz
  split
  ·rename_i e
   cases h with
   | d r => cases r; injection e with e; subst e; exact .d (.nil _)
  ·rename_i e; cases e
  ·rename_i e; cases e
  ·exact h
 | .a l, u, c, h => by
  unfold NT.nz
  split
  ·rename_i e; cases e
  ·rename_i e
   injection e with e; subst e
   cases h with
   | agg hn hv => exact .agg (by rw [hn, nzL_length]) fun i u x h1 h2 => Val.nzL l _ (fun i u c h1 h2 => hv i u c h1 h2) i u x h1 h2
  ·rename_i e; cases e
  ·exact h
 | .r z, u, c, h => by
  unfold NT.nz
  split
  ·rename_i e; cases e
  ·rename_i e; cases e
  ·rename_i e
   injection e with e; subst e
   cases h with
   | d r => exact .d (r.nn _)
  ·exact h
theorem Val.nzL {w : World} {im1 : Nat → Prop} {m : Nat → Value} : ∀ (T : List NT) (l : List AV) {vals : Array Value}, (∀ (i : Nat) (u : Value) (c : AV), vals[i]? = some u → l[i]? = some c → Val w im1 m u c) →
  ∀ (i : Nat) (u : Value) (c : AV), vals[i]? = some u → (NT.nz.nzL T l)[i]? = some c → Val w im1 m u c
 | [], [], _, _, i, u, c, _, h => by cases h
 | [], _ :: _, _, hv, i, u, c, h1, h2 => hv i u c h1 h2
 | _ :: _, [], _, _, i, u, c, _, h => by cases h
 | t :: T, x :: l, vals, hv, i, u, c, h1, h2 => by
  cases i with
  | zero => cases h2; exact Val.nz t (hv 0 u x h1 rfl)
  | succ i =>
   have hs : ∀ (i : Nat) (u : Value) (c : AV), (vals.extract 1 vals.size)[i]? = some u → l[i]? = some c → Val w im1 m u c := fun i u c e1 e2 => by
    rw [Array.getElem?_extract] at e1
    split at e1
    ·exact hv (1 + i) u c e1 (by rw [Nat.add_comm]; exact e2)
    ·cases e1
   refine Val.nzL T l hs i u c ?_ h2
   rw [Array.getElem?_extract]
   have : i + 1 < vals.size := by
    rcases Nat.lt_or_ge (i + 1) vals.size with h | h
    ·exact h
    ·rw [Array.getElem?_eq_none h] at h1; cases h1
   rw [if_pos (by omega), Nat.add_comm 1 i]; exact h1
end
theorem Calm.nz {P : Program} {g : Nat} {T : List NT} {args : List AV} {res : AV} (h : Calm P g (NT.nz.nzL T args) res) : Calm P g args res :=
 ⟨h.1, h.2.1, fun C m w hp vals I hs hv => h.2.2 C m w hp vals I (by rw [hs, nzL_length]) fun i u c h1 h2 => Val.nzL T args hv i u c h1 h2⟩
theorem Known.calm {P : Program} {Γ : Gam} (hm : P.follows .mixedOrders = true) (K : Known P Γ) {g : Nat} {args : List AV} {res : AV} (hi : AV.ids.idsL args = []) (hr : res.ids = []) (hb : Body P Γ (DRun P Γ) g args res) : Calm P g args res :=
 Body.calm K.ok (Draws hm K.ok K.loc) hi hr hb
theorem Known.addC {P : Program} {Γ : Gam} (K : Known P Γ) {g0 : Nat} (T : List NT) {F : List AV → Option (Prop × AV)}
  (hF : ∀ args sc res, F args = some (sc, res) → sc → Calm P g0 args res) : Known P (Γ.add g0 fun a => F (NT.nz.nzL T a)) :=
 ⟨K.ok.add fun args sc res h hs _ => (hF _ sc res h hs).nz, K.loc.add g0 _⟩
theorem nzL_nil (l : List AV) : NT.nz.nzL [] l = l := by cases l <;> rfl
theorem nzL_cons (t : NT) (T : List NT) (c : AV) (l : List AV) : NT.nz.nzL (t :: T) (c :: l) = t.nz c :: NT.nz.nzL T l := rfl
theorem nz_k (c : AV) : NT.k.nz c = c := by cases c <;> rfl
theorem nz_sl (z sz : Nat) (xs : List (List Dat)) : (NT.s z).nz (.d (.sl sz xs)) = .d (.sl sz xs) := rfl
theorem nz_nil (z : Nat) : (NT.s z).nz (.d (.v (.slice none 0 0))) = .d (.sl z []) := rfl
theorem nz_agg (T : List NT) (l : List AV) : (NT.a T).nz (.agg l) = .agg (NT.nz.nzL T l) := rfl
end Go.Proofs.Ytgbialeahdoelaa.Eng

end

section
namespace Go.Proofs.Ytgbialeahdoelaa.Eng
open Go
set_option linter.unusedVariables false
set_option linter.unusedSimpArgs false
def opL : Op → List Operand
 | .alloc _ => []
 | .move x | .assign x | .box _ x | .load _ x | .nilCheck x | .unOp _ _ x | .convert _ _ x | .fieldAddr _ x _ | .field _ x _ | .extract x _ | .makeInterface _ x => [x]
 | .pick c a b => [c, a, b]
 | .store _ a v | .binOp _ _ a v _ | .makeSlice _ a v | .indexAddr _ a v | .index _ a v => [a, v]
 | .build _ ps | .buildSlice _ _ ps => ps.toList.map (·.2)
 | .slice _ x l h m => x :: (l.toList ++ h.toList ++ m.toList)
 | o => o.operands.toList
theorem opL_eq (o : Op) : o.operands.toList = opL o := by cases o <;> simp [opL, Op.operands]
theorem opIds_L (look : Operand → AV) (o : Op) : opIds look o = AV.ids.idsL ((opL o).map look) := by unfold opIds; rw [opL_eq]
theorem opL_builtin (b : Builtin) (l : List Operand) (ts : Array Nat) : opL (.call { callee := .builtin b, args := l.toArray, argTypes := ts }) = l := by
 simp [opL, Op.operands, Call.operands]
theorem opL_value (f : Operand) (l : List Operand) (ts : Array Nat) : opL (.call { callee := .value f, args := l.toArray, argTypes := ts }) = f :: l := by
 simp [opL, Op.operands, Call.operands]
theorem evO : (∀ t, opL (.alloc t) = []) ∧ (∀ x, opL (.move x) = [x]) ∧ (∀ x, opL (.assign x) = [x]) ∧ (∀ t x, opL (.box t x) = [x]) ∧ (∀ t x, opL (.load t x) = [x]) ∧ (∀ x, opL (.nilCheck x) = [x]) ∧ (∀ o t x, opL (.unOp o t x) = [x]) ∧ (∀ s t x, opL (.convert s t x) = [x]) ∧
  (∀ t x i, opL (.fieldAddr t x i) = [x]) ∧ (∀ t x i, opL (.field t x i) = [x]) ∧ (∀ x i, opL (.extract x i) = [x]) ∧ (∀ t x, opL (.makeInterface t x) = [x]) ∧ (∀ c a b, opL (.pick c a b) = [c, a, b]) ∧ (∀ t a v, opL (.store t a v) = [a, v]) ∧ (∀ o t a v t2, opL (.binOp o t a v t2) = [a, v]) ∧
  (∀ t a v, opL (.makeSlice t a v) = [a, v]) ∧ (∀ t a v, opL (.indexAddr t a v) = [a, v]) ∧ (∀ t a v, opL (.index t a v) = [a, v]) ∧ (∀ t (ps : List (Nat × Operand)), opL (.build t ps.toArray) = ps.map (·.2)) ∧ (∀ t n (ps : List (Nat × Operand)), opL (.buildSlice t n ps.toArray) = ps.map (·.2)) ∧
  (∀ t x l h, opL (.slice t x l h none) = x :: (l.toList ++ h.toList ++ [])) ∧ (∀ b (l : List Operand) (ts : Array Nat), opL (.call { callee := .builtin b, args := l.toArray, argTypes := ts }) = l) ∧ (∀ f (l : List Operand) (ts : Array Nat), opL (.call { callee := .value f, args := l.toArray, argTypes := ts }) = f :: l) :=
 ⟨fun _ => rfl, fun _ => rfl, fun _ => rfl, fun _ _ => rfl, fun _ _ => rfl, fun _ => rfl, fun _ _ _ => rfl, fun _ _ _ => rfl, fun _ _ _ => rfl, fun _ _ _ => rfl, fun _ _ => rfl, fun _ _ => rfl, fun _ _ _ => rfl, fun _ _ _ => rfl, fun _ _ _ _ _ => rfl, fun _ _ _ => rfl, fun _ _ _ => rfl, fun _ _ _ => rfl, fun _ _ => rfl, fun _ _ _ => rfl, fun _ _ _ _ => rfl, opL_builtin, opL_value⟩
def goT (n : Nat) (u : List Nat) (sl : List (Nat × AV)) (hp : Hp) (dst : Option Nat) (l : List Nat) (e : Option Eff) (K : Info → St → Prop) : Prop :=
 match e, dst with
 | some ⟨sc, val, up, false⟩, some d => d < n ∧ subL (val.ids ++ upIds up) u = true ∧ sc ∧ K ⟨l, keys up, val.ids ++ upIds up⟩ ⟨n, u, (d, val) :: sl, up ++ hp⟩
 | some ⟨sc, val, up, true⟩, some d => d < n ∧ u.contains d = false ∧ subL (val.ids ++ upIds up) (d :: u) = true ∧ sc ∧ K ⟨l, keys up ++ [d], val.ids ++ upIds up⟩ ⟨n, d :: u, (d, val) :: sl, up ++ hp⟩
 | some ⟨sc, val, up, false⟩, none => subL (val.ids ++ upIds up) u = true ∧ sc ∧ K ⟨l, keys up, val.ids ++ upIds up⟩ ⟨n, u, sl, up ++ hp⟩
 | _, _ => False
def goTG (n : Nat) (u : List Nat) (sl : List (Nat × AV)) (hp : Hp) (d : Nat) (l : List Nat) (g : List Bool) (e : Option Eff) (K : Info → St → Prop) : Prop :=
 match e with
 | some ⟨sc, val, [], false⟩ => d < n ∧ subL val.ids u = true ∧ (allB g = true → sc) ∧ K ⟨l, [], val.ids⟩ ⟨n, u, (d, .gd g val) :: sl, hp⟩
 | some e => if allB g = true then goT n u sl hp (some d) l (some e) K else d < n ∧ K ⟨l, [], []⟩ ⟨n, u, (d, .gd g .bad) :: sl, hp⟩
 | none => allB g = false ∧ d < n ∧ K ⟨l, [], []⟩ ⟨n, u, (d, .gd g .bad) :: sl, hp⟩
def goTH (n : Nat) (u : List Nat) (sl : List (Nat × AV)) (hp : Hp) (d : Nat) (b : Option (List Bool × Bool)) (want : Bool) (l : List Bool → List Nat) (f : List Bool → Option Eff) (K : Info → St → Prop) : Prop :=
 match b with
 | some b => goTG n u sl hp d (l (gOf b want)) (gOf b want) (f (gOf b want)) K
 | none => False
section
variable (P : Program) (Γ : Gam) (n : Nat) (u : List Nat) (sl : List (Nat × AV)) (hp : Hp) (ops : Array Oper) (K : Info → St → Prop) (acc : List Info)
theorem goT_val (d : Nat) (l : List Nat) (sc : Prop) (val : AV) (up : Hp) : goT n u sl hp (some d) l (some ⟨sc, val, up, false⟩) K = (d < n ∧ subL (val.ids ++ upIds up) u = true ∧ sc ∧ K ⟨l, keys up, val.ids ++ upIds up⟩ ⟨n, u, (d, val) :: sl, up ++ hp⟩) := rfl
theorem goT_new (d : Nat) (l : List Nat) (sc : Prop) (val : AV) (up : Hp) : goT n u sl hp (some d) l (some ⟨sc, val, up, true⟩) K = (d < n ∧ u.contains d = false ∧ subL (val.ids ++ upIds up) (d :: u) = true ∧ sc ∧ K ⟨l, keys up ++ [d], val.ids ++ upIds up⟩ ⟨n, d :: u, (d, val) :: sl, up ++ hp⟩) := rfl
theorem goT_store (l : List Nat) (sc : Prop) (val : AV) (up : Hp) : goT n u sl hp none l (some ⟨sc, val, up, false⟩) K = (subL (val.ids ++ upIds up) u = true ∧ sc ∧ K ⟨l, keys up, val.ids ++ upIds up⟩ ⟨n, u, sl, up ++ hp⟩) := rfl
theorem goTG_val (d : Nat) (l : List Nat) (g : List Bool) (sc : Prop) (val : AV) : goTG n u sl hp d l g (some ⟨sc, val, [], false⟩) K = (d < n ∧ subL val.ids u = true ∧ (allB g = true → sc) ∧ K ⟨l, [], val.ids⟩ ⟨n, u, (d, .gd g val) :: sl, hp⟩) := by simp only [goTG]
theorem goTG_new (d : Nat) (l : List Nat) (g : List Bool) (sc : Prop) (val : AV) (up : Hp) : goTG n u sl hp d l g (some ⟨sc, val, up, true⟩) K = if allB g = true then goT n u sl hp (some d) l (some ⟨sc, val, up, true⟩) K else d < n ∧ K ⟨l, [], []⟩ ⟨n, u, (d, .gd g .bad) :: sl, hp⟩ := by cases up <;> rfl
theorem goTG_up (d : Nat) (l : List Nat) (g : List Bool) (sc : Prop) (val : AV) (q : Nat × Option AObj) (up : Hp) : goTG n u sl hp d l g (some ⟨sc, val, q :: up, false⟩) K = if allB g = true then goT n u sl hp (some d) l (some ⟨sc, val, q :: up, false⟩) K else d < n ∧ K ⟨l, [], []⟩ ⟨n, u, (d, .gd g .bad) :: sl, hp⟩ := rfl
theorem goTG_none (d : Nat) (l : List Nat) (g : List Bool) : goTG n u sl hp d l g none K = (allB g = false ∧ d < n ∧ K ⟨l, [], []⟩ ⟨n, u, (d, .gd g .bad) :: sl, hp⟩) := rfl
theorem goTH_true (d : Nat) (gs : List Bool) (b : Bool) (l : List Bool → List Nat) (f : List Bool → Option Eff) : goTH n u sl hp d (some (gs, b)) true l f K = goTG n u sl hp d (l (gs ++ [b])) (gs ++ [b]) (f (gs ++ [b])) K := rfl
theorem goTH_false (d : Nat) (gs : List Bool) (b : Bool) (l : List Bool → List Nat) (f : List Bool → Option Eff) : goTH n u sl hp d (some (gs, b)) false l f K = goTG n u sl hp d (l (gs ++ [!b])) (gs ++ [!b]) (f (gs ++ [!b])) K := rfl
theorem runT_nil (K : List Info → St → Prop) : runT P Γ ops [] acc ⟨n, u, sl, hp⟩ K = K acc ⟨n, u, sl, hp⟩ := rfl
theorem runT_none (dst : Option Nat) (op : Op) (ty : Nat) (pos : String) (aft : Array Edge) (os : List Oper) (K : List Info → St → Prop) : runT P Γ ops (⟨dst, op, ty, pos, aft, none⟩ :: os) acc ⟨n, u, sl, hp⟩ K =
  goT n u sl hp dst (AV.ids.idsL ((opL op).map (lk sl))) ((St.mk n u sl hp).effOf P Γ (dst.getD 0) op) (fun i s' => runT P Γ ops os (acc ++ [i]) s' K) := by
 simp only [runT, opF, goT, look_mk, opIds_L]
 cases (St.mk n u sl hp).effOf P Γ (dst.getD 0) op with
 | none => cases dst <;> rfl
 | some e =>
  obtain ⟨sc, val, up, new⟩ := e
  cases dst with
  | none =>
   cases new with
   | false =>
    by_cases h : subL (val.ids ++ upIds up) u = true <;> simp [St.okB, St.upd, h]
   | true => simp [St.okB]
  | some d =>
   cases new with
   | false =>
    by_cases h0 : d < n <;> by_cases h : subL (val.ids ++ upIds up) u = true <;> simp [St.okB, St.upd, h, h0]
   | true =>
    by_cases h0 : d < n <;> by_cases h : subL (val.ids ++ upIds up) (d :: u) = true <;> cases h1 : u.contains d <;> simp only [St.okB, St.upd, h0, h, h1, decide_true, decide_false, Bool.not_true, Bool.not_false, Bool.false_or, Bool.or_false, Bool.true_and, Bool.and_true, Bool.and_false, Bool.false_and, Bool.true_or, Option.getD_some, if_true, true_and, false_and, and_false, Bool.false_eq_true, if_false, reduceCtorEq]
theorem runT_guard (d : Nat) (op : Op) (ty : Nat) (pos : String) (aft : Array Edge) (j : Nat) (want : Bool) (l os : List Oper) (K : List Info → St → Prop) : runT P Γ l.toArray (⟨some d, op, ty, pos, aft, some (j, want)⟩ :: os) acc ⟨n, u, sl, hp⟩ K =
  goTH n u sl hp d (gdV sl (gdL l j)) want (fun g => AV.ids.idsL ((opL op).map (lk (sl.map fun p => (p.1, unw g p.2))))) (fun g => (St.mk n u (sl.map fun p => (p.1, unw g p.2)) hp).effOf P Γ d op) (fun i s' => runT P Γ l.toArray os (acc ++ [i]) s' K) := by
 have e : (St.mk n u sl hp).guard l.toArray j = gdV sl (gdL l j) := by
  rw [gdL_eq]
  unfold St.guard gdV
  rw [List.getElem?_toArray, look_mk]
  cases (l[j]?).bind (·.dst) <;> rfl
 simp only [runT, opF, e, goTH, goTG]
 cases gdV sl (gdL l j) with
 | none => rfl
 | some b =>
  simp only [opIds_L, at_mk, look_mk]
  cases (St.mk n u (sl.map fun p => (p.1, unw (gOf b want) p.2)) hp).effOf P Γ d op with
  | none =>
   by_cases h3 : d < n <;> by_cases h5 : allB (gOf b want) = true <;> simp [h3, h5]
  | some ef =>
   obtain ⟨sc, val, up, new⟩ := ef
   simp only [Eff.none?]
   cases up with
   | nil =>
    cases new with
    | false =>
     by_cases h3 : d < n <;> by_cases h4 : subL val.ids u = true <;> simp [h3, h4]
    | true =>
     by_cases h5 : allB (gOf b want) = true <;> by_cases h3 : d < n <;> by_cases h : subL (val.ids ++ upIds []) (d :: u) = true <;> cases h1 : u.contains d <;> simp [h5, goT, St.okB, St.upd, h3, h, h1, keys] <;> simp_all
   | cons q up =>
    cases new with
    | false =>
     by_cases h5 : allB (gOf b want) = true <;> by_cases h3 : d < n <;> by_cases h : subL (val.ids ++ upIds (q :: up)) u = true <;> simp [h5, goT, St.okB, St.upd, h3, h, keys] <;> simp_all
    | true =>
     by_cases h5 : allB (gOf b want) = true <;> by_cases h3 : d < n <;> by_cases h : subL (val.ids ++ upIds (q :: up)) (d :: u) = true <;> cases h1 : u.contains d <;> simp [h5, goT, St.okB, St.upd, h3, h, h1, keys] <;> simp_all
theorem DRun_mk (l : List Oper) (K : St → Prop) : DRun P Γ l.toArray ⟨n, u, sl, hp⟩ K = runT P Γ l.toArray l [] ⟨n, u, sl, hp⟩ fun is s' => pairsOk l.toArray is = true ∧ K s' := rfl
end
end Go.Proofs.Ytgbialeahdoelaa.Eng

end

section
namespace Go.Proofs.Ytgbialeahdoelaa.Eng
open Go
section
variable {P : Program} {Γ : Gam} {C : Ctx} {m : Nat → Value} {w : World} {hp hp2 : Hp}
theorem Inv.le (I : Inv C m w hp) {ρ : Nat → Nat} {born : List Nat} (h3 : hpR ρ born hp hp2) (h4 : distinct ρ born (liveIds hp2)) : ∃ m2 : Nat → Value, (∀ o, o ∉ born → m2 o = m (ρ o)) ∧ (∀ o ∈ born, m2 o = .slice none 0 0) ∧ Inv C m2 w hp2 ∧
  (∀ b, im C m w hp b → im C m2 w hp2 b) ∧ ∀ (u : Value) (c' c : AV), Val w (im C m w hp) m u c' → Mt ρ born c' c → Val w (im C m2 w hp2) m2 u c := by
 let m2 : Nat → Value := fun o => if o ∈ born then .slice none 0 0 else m (ρ o)
 have mb : ∀ o ∈ born, m2 o = .slice none 0 0 := fun o h => if_pos h
 have mn : ∀ o, o ∉ born → m2 o = m (ρ o) := fun o h => if_neg h
 have obj_of : ∀ o obj, hp2.get o = some obj → (o ∈ born ∧ ∃ e sz, obj = .row e sz []) ∨ (o ∉ born ∧ ∃ obj', hp.get (ρ o) = some obj' ∧ MtO ρ born obj' obj) := fun o obj ho => by
  have := hpR_all h3 _ (get_mem ho).1
  simp only at this
  split at this
  ·rename_i hb
   refine .inl ⟨hb, ?_⟩
   cases obj with
   | cells _ cs => exact this.elim
   | row e sz xs => simp only at this; subst this; exact ⟨e, sz, rfl⟩
  ·rename_i hb
   exact .inr ⟨hb, this⟩
 have him : ∀ b, im C m w hp b → im C m2 w hp2 b ∧ w.heap[b]? = w.heap[b]? := fun b hb => by
  refine ⟨⟨hb.1, hb.2.1, fun o obj ho => ?_⟩, rfl⟩
  rcases obj_of o obj ho with ⟨h, _⟩ | ⟨h, obj', h', _⟩
  ·rw [mb o h]; simp [blk]
  ·rw [mn o h]; exact hb.2.2 _ _ h'
 refine ⟨m2, mn, mb, ⟨I.os, I.tape, I.output, I.size, I.frame, fun o obj ho => ?_, fun o o' obj obj' b ho ho' hne hb => ?_, fun o obj b ho hb => ?_⟩, fun b hb => (him b hb).1, fun u c' c hv hm => (hv.mono him (fun _ _ => rfl)).mt mn mb hm⟩
 ·rcases obj_of o obj ho with ⟨h, e, sz, rfl⟩ | ⟨h, obj', h', hmt⟩
  ·exact ⟨[], by rw [mb o h]; exact World.ownsRow_nil w 0 e sz, by simp, by simp⟩
  ·have := (I.live _ _ h').mono him (fun _ _ => rfl) rfl (fun _ _ => rfl)
   cases obj with
   | cells e l =>
    cases obj' with
    | row _ _ _ => exact hmt.elim
    | cells e' l' =>
     obtain ⟨rfl, hmt, hcell⟩ := hmt
     obtain ⟨b, us, q1, q2, q3, q4, q5⟩ := this
     refine ⟨b, us, by rw [mn o h]; exact q1, q2, by rw [q3]; exact MtL_length hmt, fun i u c r1 r2 => ?_, fun c hc => List.all_eq_true.1 hcell c hc⟩
     obtain ⟨y, r3, r4⟩ := MtL_get hmt i c r2
     exact (q4 i u y r1 r3).mt mn mb r4
   | row e sz xs =>
    cases obj' with
    | cells _ _ => exact hmt.elim
    | row e' sz' xs' =>
     obtain ⟨rfl, rfl, rfl⟩ := hmt
     obtain ⟨us, q1, q2⟩ := this
     exact ⟨us, by rw [mn o h]; exact q1, q2⟩
 ·rcases obj_of o obj ho with ⟨h, _⟩ | ⟨h, x, hx, _⟩
  ·rw [mb o h] at hb; cases hb
  ·rcases obj_of o' obj' ho' with ⟨h', _⟩ | ⟨h', x', hx', _⟩
   ·rw [mb o' h']; simp [blk]
   ·rw [mn o h] at hb
    rw [mn o' h']
    exact I.sep _ _ _ _ b hx hx' (distinct_spec h4 o (get_mem ho).2 o' (get_mem ho').2 h h' hne) hb
 ·rcases obj_of o obj ho with ⟨h, _⟩ | ⟨h, x, hx, _⟩
  ·rw [mb o h] at hb; cases hb
  ·rw [mn o h] at hb; exact I.own _ _ b hx hb
end
def retH (P : Program) (rs : List ResultVar) (res : AV) (hp' : Hp) : Exit → St → Prop
 | .ret, s | .normal, s => match resL P s rs with
  | some l => ∃ ρ : Nat → Nat, Mt (pr ρ) [] (one l) res ∧ hpR (pr ρ) [] s.hp hp' ∧ distinct (pr ρ) [] (liveIds hp')
  | none => False
 | _, _ => False
def HBody (P : Program) (Γ : Gam) (D : Array Oper → St → (St → Prop) → Prop) (g : Nat) (args : List AV) (chp : Hp) (res : AV) (hp' : Hp) : Prop :=
 ∃ fn c, P.funcs[g]? = some fn ∧ (fn.name == "runtime.NumGoroutine") = false ∧ fn.body = some c ∧ (args.length ≤ fn.ntmps ∧ fn.ntmps ≤ 10000) ∧ wpc P Γ D c (retH P fn.results.toList res hp') { n := fn.ntmps, used := upIds chp, sl := startL 0 args, hp := chp }
def HCalm (P : Program) (g : Nat) (args : List AV) (chp : Hp) (res : AV) (hp' : Hp) : Prop :=
 (∃ fn, P.funcs[g]? = some fn ∧ (fn.name == "runtime.NumGoroutine") = false ∧ fn.body.isNone = false) ∧
 ∀ (C : Ctx) (m : Nat → Value) (w : World) (vals : Array Value), C.w0 = w → (∀ i, 10000 ≤ i → m i = C.pin i) → Inv C m w chp → vals.size = args.length →
  (∀ (i : Nat) (u : Value) (c : AV), vals[i]? = some u → args[i]? = some c → Val w (im C m w chp) m u c) → Calls P g vals w fun en w' => ∃ v mm, en = .returned v ∧ (∀ i, 10000 ≤ i → mm i = m i) ∧ Inv C mm w' hp' ∧ Val w' (im C mm w' hp') mm v res
section
variable {P : Program} {Γ : Gam} {D : Array Oper → St → (St → Prop) → Prop}
theorem HBody.calm (hG : Gok P Γ) (hD : DrawOk P Γ D) {g : Nat} {args : List AV} {chp : Hp} {res : AV} {hp' : Hp} (hids : subL (AV.ids.idsL args) (upIds chp) = true) (h : HBody P Γ D g args chp res hp') : HCalm P g args chp res hp' := by
 obtain ⟨fn, c, h1, h2, h3, h4, h5⟩ := h
 refine ⟨⟨fn, h1, h2, by rw [h3]; rfl⟩, fun C m w vals hw0 hpin I hsz hv => ?_⟩
 have S : Sat C m { n := fn.ntmps, used := upIds chp, sl := startL 0 args, hp := chp } { tmps := vals ++ Array.replicate (fn.ntmps - vals.size) undef, defers := [] } w := by
  refine ⟨I, by simp; omega, rfl, fun t c hl => ?_, fun o obj ho => upIds_mem (get_mem ho).1, h4.2, hpin⟩
  obtain ⟨_, hc⟩ := startL_lookup args 0 t c hl
  simp only [Nat.sub_zero] at hc
  have ht : t < vals.size := by rw [hsz]; exact (List.getElem?_eq_some_iff.1 hc).1
  refine ⟨?_, fun i hi => subL_mem hids i (idsL_mem hc i hi)⟩
  have e : (vals ++ Array.replicate (fn.ntmps - vals.size) undef).getD t undef = vals.getD t undef := by
   simp [Array.getElem?_append, ht]
  simp only [e]
  exact hv t _ c (by simp [ht]) hc
 refine calls_of_wp h1 h3 (wp_mono (wpc_ok hG hD c _ _ m _ w h5 S) fun e a' w' hq => ?_)
 obtain ⟨s', m', S', hq⟩ := hq
 have fin : retH P fn.results.toList res hp' .ret s' → a'.defers = [] ∧ ∃ v, (results fn a'.tmps).run P w' = .ok v w' ∧ ∃ v' mm, Ending.returned v = .returned v' ∧ (∀ i, 10000 ≤ i → mm i = m i) ∧ Inv C mm w' hp' ∧ Val w' (im C mm w' hp') mm v' res := fun hq => by
  refine ⟨S'.defers, ?_⟩
  unfold retH at hq
  simp only at hq
  split at hq
  case h_2 => exact hq.elim
  rename_i l hl
  obtain ⟨ρ, r1, r2, r3⟩ := hq
  obtain ⟨vs, q1, q2, q3⟩ := results_ok S' _ l hl
  have hone := one_val q2 q3
  obtain ⟨mm, n1, _, n2, _, n3⟩ := S'.inv.le r2 r3
  refine ⟨_, results_run q1, _, mm, rfl, fun i hi => ?_, n2, n3 _ _ _ hone r1⟩
  rw [n1 i (by simp), pr, if_pos hi, S'.pin i hi, hpin i hi]
 cases e with
 | normal => exact fin hq
 | ret => exact fin hq
 | _ => exact hq.elim
end
def AV.rn (τ : Nat → Nat) : AV → AV
 | .ptr o f => .ptr (τ o) f
 | .row o n => .row (τ o) n
 | .rp o s i f => .rp (τ o) s i f
 | .agg l => .agg (rnL τ l)
 | .tup l => .tup (rnL τ l)
 | .fn g l => .fn g (rnL τ l)
 | .d x => .d x
 | .ep c f => .ep c f
 | _ => .bad
where rnL (τ : Nat → Nat) : List AV → List AV
 | [] => []
 | c :: l => c.rn τ :: rnL τ l
def AObj.rn (τ : Nat → Nat) : AObj → AObj
 | .cells e l => .cells e (AV.rn.rnL τ l)
 | .row e s xs => .row e s xs
theorem rnL_length (τ : Nat → Nat) : ∀ l, (AV.rn.rnL τ l).length = l.length
 | [] => rfl
 | _ :: l => by simp [AV.rn.rnL, rnL_length τ l]
theorem rnL_get (τ : Nat → Nat) : ∀ (l : List AV) (i : Nat) (c : AV), (AV.rn.rnL τ l)[i]? = some c → ∃ c0, l[i]? = some c0 ∧ c = c0.rn τ
 | [], _, _, h => by cases h
 | c0 :: l, 0, c, h => by cases h; exact ⟨c0, rfl, rfl⟩
 | _ :: l, i + 1, c, h => rnL_get τ l i c (by simpa [AV.rn.rnL] using h)
theorem rn_cell (τ : Nat → Nat) (c : AV) (h : c.cell = true) : (c.rn τ).cell = true := by cases c <;> first | rfl | cases h
theorem Val.rn {w : World} {im1 : Nat → Prop} {mm m' : Nat → Value} {τ : Nat → Nat} {u : Value} {c : AV} (h : Val w im1 mm u c) : (∀ i ∈ c.ids, m' (τ i) = mm i) → Val w im1 m' u (c.rn τ) := by
 induction h with
 | d r => exact fun _ => .d r
 | agg hn _ ih =>
  intro hm
  refine .agg (by rw [hn, rnL_length]) fun i u c h1 h2 => ?_
  obtain ⟨c0, h3, rfl⟩ := rnL_get τ _ i c h2
  exact ih i u c0 h1 h3 fun o ho => hm o (idsL_mem h3 o ho)
 | tup hn _ ih =>
  intro hm
  refine .tup (by rw [hn, rnL_length]) fun i u c h1 h2 => ?_
  obtain ⟨c0, h3, rfl⟩ := rnL_get τ _ i c h2
  exact ih i u c0 h1 h3 fun o ho => hm o (idsL_mem h3 o ho)
 | fn hn _ ih =>
  intro hm
  refine .fn (by rw [hn, rnL_length]) fun i u c h1 h2 => ?_
  obtain ⟨c0, h3, rfl⟩ := rnL_get τ _ i c h2
  exact ih i u c0 h1 h3 fun o ho => hm o (idsL_mem h3 o ho)
 | ptr e => exact fun hm => .ptr (by rw [hm _ (by simp [AV.ids])]; exact e)
 | row e => exact fun hm => .row (by rw [hm _ (by simp [AV.ids])]; exact e)
 | rp e => exact fun hm => .rp (by rw [hm _ (by simp [AV.ids])]; exact e)
 | ep vs hs hi hw hr => exact fun _ => .ep vs hs hi hw hr
 | gd _ _ => exact fun _ => .bad _
 | bad u => exact fun _ => .bad u
theorem ObjSat.rn {w : World} {im1 : Nat → Prop} {mm m' : Nat → Value} {τ : Nat → Nat} {i : Nat} {obj : AObj} (h : ObjSat w im1 mm i obj) (h0 : m' (τ i) = mm i) (hm : ∀ j ∈ obj.ids, m' (τ j) = mm j) : ObjSat w im1 m' (τ i) (obj.rn τ) := by
 cases obj with
 | cells e cs =>
  obtain ⟨b, us, h1, h2, h3, h4, h5⟩ := h
  refine ⟨b, us, by rw [h0]; exact h1, h2, by rw [rnL_length]; exact h3, fun i u c r1 r2 => ?_, fun c hc => ?_⟩
  ·obtain ⟨c0, r3, rfl⟩ := rnL_get τ _ i c r2
   exact (h4 i u c0 r1 r3).rn fun o ho => hm o (idsL_mem r3 o ho)
  ·obtain ⟨k, hk⟩ := List.getElem?_of_mem hc
   obtain ⟨c0, r3, rfl⟩ := rnL_get τ _ k c hk
   exact rn_cell τ c0 (h5 c0 (List.mem_of_getElem? r3))
 | row e sz xs =>
  obtain ⟨us, h1, h2, h3⟩ := h
  exact ⟨us, by rw [h0]; exact h1, h2, h3⟩
structure HCall where
 sg : Nat → Nat
 born : List Nat
 args : List AV
 chp : Hp
 res : AV
 out : List (Nat × AObj)
 new : Bool
def HCall.hp' (X : HCall) : Hp := X.out.map fun p => (p.1, some p.2)
def HCall.τ (X : HCall) (d : Nat) (i : Nat) : Nat := if i = 9000 then d else X.sg i
def HCall.gone (X : HCall) : List Nat := (liveIds X.chp).filter fun i => !X.born.contains i && !(X.out.map (·.1)).contains i
def HCall.up (X : HCall) (d : Nat) : Hp := X.out.map (fun p => (X.τ d p.1, some (p.2.rn (X.τ d)))) ++ X.gone.map fun i => (X.sg i, none)
def HCall.tidy (X : HCall) : Bool :=
 (liveIds X.chp).all (fun i => Nat.ble 10000 i) && subL (AV.ids.idsL X.args) (upIds X.chp) && subL (X.res.ids ++ upIds X.hp') (X.out.map (·.1)) &&
 (X.out.map (·.1)).all (fun i => (i == 9000 && X.new) || ((liveIds X.chp).contains i && !X.born.contains i)) && decide (X.out.map (·.1)).Nodup
def HMatch (hp : Hp) (args : List AV) (X : HCall) : Prop := Mt.MtL X.sg X.born args X.args ∧ hpR X.sg X.born hp X.chp ∧ distinct X.sg X.born (liveIds X.chp)
theorem get_filter (p : Nat → Bool) : ∀ (hp : Hp) (o : Nat), Hp.get (hp.filter fun q => p q.1) o = if p o = true then hp.get o else none
 | [], o => by simp [Hp.get]
 | (a, x) :: hp, o => by
  rw [List.filter_cons]
  split
  ·rename_i ha
   rw [Hp.get_cons, Hp.get_cons, get_filter p hp o]
   by_cases e : o = a
   ·subst e; simp only [if_true]; rw [if_pos ha]
   ·rw [if_neg e, if_neg e]
  ·rename_i ha
   rw [get_filter p hp o, Hp.get_cons]
   by_cases e : o = a
   ·subst e; rw [if_neg ha, if_neg ha]
   ·rw [if_neg e]
theorem get_out : ∀ {l : List (Nat × AObj)} {i : Nat} {obj : AObj}, (i, obj) ∈ l → (l.map (·.1)).Nodup → Hp.get (l.map fun p => (p.1, some p.2)) i = some obj
 | (a, x) :: l, i, obj, h, hn => by
  rw [List.map_cons, Hp.get_cons]
  rw [List.map_cons, List.nodup_cons] at hn
  rcases List.mem_cons.1 h with e | h
  ·cases e; rw [if_pos rfl]
  ·have : i ≠ a := fun e => hn.1 (e ▸ List.mem_map.2 ⟨_, h, rfl⟩)
   rw [if_neg this]
   exact get_out h hn.2
theorem get_map_out (f : Nat → Nat) (g : AObj → AObj) : ∀ (l : List (Nat × AObj)) (hp : Hp) (o : Nat) (x : AObj), Hp.get (l.map (fun p => (f p.1, some (g p.2))) ++ hp) o = some x → (∃ i obj, (i, obj) ∈ l ∧ o = f i ∧ x = g obj) ∨ (hp.get o = some x ∧ ∀ p ∈ l, o ≠ f p.1)
 | [], hp, o, x, h => .inr ⟨h, fun p hp => by cases hp⟩
 | (a, y) :: l, hp, o, x, h => by
  rw [List.map_cons, List.cons_append, Hp.get_cons] at h
  split at h
  ·rename_i e; cases h; exact .inl ⟨a, y, List.mem_cons_self, e, rfl⟩
  ·rename_i e
   rcases get_map_out f g l hp o x h with ⟨i, obj, h1, h2⟩ | ⟨h1, h2⟩
   ·exact .inl ⟨i, obj, List.mem_cons_of_mem _ h1, h2⟩
   ·exact .inr ⟨h1, fun p hp => by
     rcases List.mem_cons.1 hp with rfl | hp
     ·exact e
     ·exact h2 p hp⟩
theorem get_gone (f : Nat → Nat) : ∀ (l : List Nat) (hp : Hp) (o : Nat) (x : AObj), Hp.get (l.map (fun i => (f i, none)) ++ hp) o = some x → hp.get o = some x ∧ ∀ i ∈ l, o ≠ f i
 | [], hp, o, x, h => ⟨h, fun i hi => by cases hi⟩
 | a :: l, hp, o, x, h => by
  rw [List.map_cons, List.cons_append, Hp.get_cons] at h
  split at h
  ·cases h
  ·rename_i e
   obtain ⟨h1, h2⟩ := get_gone f l hp o x h
   exact ⟨h1, fun i hi => by
    rcases List.mem_cons.1 hi with rfl | hi
    ·exact e
    ·exact h2 i hi⟩
section
variable {P : Program}
theorem HCalm.post {g : Nat} {X : HCall} (hc : HCalm P g X.args X.chp X.res X.hp') (ht : X.tidy = true) {C : Ctx} {m : Nat → Value} {w : World} {hp : Hp} {args : List AV} {vals : Array Value} {d : Nat} {e : Eff}
  (hM : HMatch hp args X) (e1 : e.val = X.res.rn (X.τ d)) (e2 : ∀ o, Hp.get (e.up ++ hp) o = Hp.get (X.up d ++ hp) o) (e3 : e.new = X.new) (I : Inv C m w hp) (hsz : vals.size = args.length)
  (hv : ∀ (i : Nat) (u : Value) (c : AV), vals[i]? = some u → args[i]? = some c → Val w (im C m w hp) m u c) (hf : e.new = true → Fr hp d) :
  (∃ fn, P.funcs[g]? = some fn ∧ (fn.name == "runtime.NumGoroutine") = false ∧ fn.body.isNone = false) ∧ Calls P g vals w fun en w' => ∃ v, en = .returned v ∧ Post C m w hp d e v w' := by
 obtain ⟨M1, M2, M3⟩ := hM
 simp only [HCall.tidy, Bool.and_eq_true] at ht
 obtain ⟨⟨⟨⟨t1, t2⟩, t3⟩, t4⟩, t5⟩ := ht
 have t5 := of_decide_eq_true t5
 -- who is handed over
 let pass : Nat → Bool := fun o => (liveIds X.chp).any fun i => !X.born.contains i && X.sg i == o
 let hp1 : Hp := hp.filter fun q => pass q.1
 have passed : ∀ i, i ∈ liveIds X.chp → i ∉ X.born → pass (X.sg i) = true := fun i h1 h2 => List.any_eq_true.2 ⟨i, h1, by simp [h2]⟩
 have hsub : ∀ o obj, hp1.get o = some obj → hp.get o = some obj ∧ pass o = true := fun o obj h => by
  rw [get_filter] at h
  split at h
  ·exact ⟨h, by assumption⟩
  ·cases h
 let C2 : Ctx := ⟨w, fun b => ∃ o obj, hp1.get o = some obj ∧ blk (m o) = some b, im C m w hp, fun b hb => hb.1, fun b hb ⟨o, obj, h1, h2⟩ => hb.2.2 o obj (hsub o obj h1).1 h2, fun _ => .nilFunc, I.tab⟩
 have him1 : ∀ b, im C m w hp b → im C2 m w hp1 b ∧ w.heap[b]? = w.heap[b]? := fun b hb => ⟨⟨hb.1, .inl hb, fun o obj ho => hb.2.2 o obj (hsub o obj ho).1⟩, rfl⟩
 have I1 : Inv C2 m w hp1 := ⟨rfl, rfl, rfl, Nat.le_refl _, fun _ _ _ => rfl, fun o obj ho => (I.live o obj (hsub o obj ho).1).mono him1 (fun _ _ => rfl) rfl (fun _ _ => rfl),
  fun o o' obj obj' b h1 h2 => I.sep o o' obj obj' b (hsub _ _ h1).1 (hsub _ _ h2).1, fun o obj b ho hb => .inl ⟨o, obj, ho, hb⟩⟩
 have hR1 : hpR X.sg X.born hp1 X.chp := by
  have key : ∀ (l : Hp), (∀ i ∈ liveIds l, i ∈ liveIds X.chp) → hpR X.sg X.born hp l → hpR X.sg X.born hp1 l := by
   intro l
   induction l with
   | nil => exact fun _ h => h
   | cons p l ih =>
    obtain ⟨a, x⟩ := p
    cases x with
    | none => exact fun h1 h2 => ih h1 h2
    | some x =>
     refine fun h1 h2 => ⟨?_, ih (fun i hi => h1 i (List.mem_cons_of_mem _ hi)) h2.2⟩
     have h3 := h2.1
     split
     ·rename_i hb; rw [if_pos hb] at h3; exact h3
     ·rename_i hb
      rw [if_neg hb] at h3
      rw [show hp1.get (X.sg a) = hp.get (X.sg a) by rw [get_filter, if_pos (passed a (h1 a List.mem_cons_self) hb)]]
      exact h3
  exact key X.chp (fun _ h => h) M2
 obtain ⟨m2, n1, n2, I2, n3, n4⟩ := I1.le hR1 M3
 let C3 : Ctx := { C2 with pin := m2 }
 have I3 : Inv C3 m2 w X.chp := ⟨I2.os, I2.tape, I2.output, I2.size, I2.frame, I2.live, I2.sep, I2.own⟩
 obtain ⟨hfn, hcall⟩ := hc
 refine ⟨hfn, (hcall C3 m2 w vals rfl (fun _ _ => rfl) I3 (by rw [hsz]; exact MtL_length M1) fun i u c h1 h2 => ?_).mono ?_⟩
 ·obtain ⟨c', h3, h4⟩ := MtL_get M1 i c h2
  exact n4 u c' c ((hv i u c' h1 h3).mono him1 (fun _ _ => rfl)) h4
 rintro en w' ⟨v, mm, q1, q2, q3, q4⟩
 refine ⟨v, q1, ?_⟩
 -- behind the call
 let m' : Nat → Value := fun i => if X.new = true ∧ i = d then mm 9000 else m i
 have old : ∀ o, (e.new = true → o ≠ d) → m' o = m o := fun o h => if_neg fun ⟨h1, h2⟩ => h (e3.trans h1) h2
 have kinds : ∀ i ∈ X.out.map (·.1), (i = 9000 ∧ X.new = true) ∨ (i ≠ 9000 ∧ i ∈ liveIds X.chp ∧ i ∉ X.born) := fun i hi => by
  have := List.all_eq_true.1 t4 i hi
  simp only [Bool.or_eq_true, Bool.and_eq_true, beq_iff_eq, List.contains_iff_mem, Bool.not_eq_true', ← Bool.not_eq_true] at this
  rcases this with h | ⟨h1, h2⟩
  ·exact .inl h
  ·have h3 := List.all_eq_true.1 t1 i h1
   have h3 : 10000 ≤ i := Nat.le_of_ble_eq_true h3
   exact .inr ⟨by omega, h1, h2⟩
 have live1 : ∀ i, i ∈ liveIds X.chp → i ∉ X.born → ∃ obj, hp1.get (X.sg i) = some obj := fun i h1 h2 => by
  have : ∀ (l : Hp), hpR X.sg X.born hp1 l → i ∈ liveIds l → ∃ obj, hp1.get (X.sg i) = some obj := by
   intro l
   induction l with
   | nil => intro _ h; cases h
   | cons p l ih =>
    obtain ⟨a, x⟩ := p
    cases x with
    | none => exact fun h hi => ih h hi
    | some x =>
     intro h hi
     rcases List.mem_cons.1 hi with rfl | hi
     ·have h3 := h.1
      rw [if_neg h2] at h3
      cases hg : hp1.get (X.sg i) with
      | none => rw [hg] at h3; exact h3.elim
      | some y => exact ⟨y, rfl⟩
     ·exact ih h.2 hi
  exact this X.chp hR1 h1
 have hτ : ∀ i ∈ X.out.map (·.1), m' (X.τ d i) = mm i := fun i hi => by
  rcases kinds i hi with ⟨rfl, hn⟩ | ⟨h1, h2, h3⟩
  ·rw [HCall.τ, if_pos rfl]; exact if_pos ⟨hn, rfl⟩
  ·rw [HCall.τ, if_neg h1]
   obtain ⟨obj, ho⟩ := live1 i h2 h3
   rw [old _ fun hn => (hf hn _ _ (hsub _ _ ho).1).1, ← n1 i h3, q2 i (Nat.le_of_ble_eq_true (List.all_eq_true.1 t1 i h2))]
 have ids_in : ∀ i, i ∈ X.res.ids ++ upIds X.hp' → i ∈ X.out.map (·.1) := fun i hi => subL_mem t3 i hi
 have getup : ∀ o x, Hp.get (e.up ++ hp) o = some x → (∃ i obj, (i, obj) ∈ X.out ∧ o = X.τ d i ∧ x = obj.rn (X.τ d)) ∨ (hp.get o = some x ∧ hp1.get o = none) := fun o x h => by
  rw [e2 o, HCall.up, List.append_assoc] at h
  rcases get_map_out _ _ _ _ _ _ h with h | ⟨h1, h2⟩
  ·exact .inl h
  ·obtain ⟨h3, h4⟩ := get_gone _ _ _ _ _ h1
   refine .inr ⟨h3, ?_⟩
   rw [get_filter]
   split
   ·rename_i hp0
    exfalso
    obtain ⟨i, h5, h6⟩ := List.any_eq_true.1 hp0
    simp only [Bool.and_eq_true, Bool.not_eq_true', beq_iff_eq] at h6
    by_cases hin : i ∈ X.out.map (·.1)
    ·obtain ⟨p, hp2, rfl⟩ := List.mem_map.1 hin
     refine h2 p hp2 ?_
     have h7 : 10000 ≤ p.1 := Nat.le_of_ble_eq_true (List.all_eq_true.1 t1 _ h5)
     rw [HCall.τ, if_neg (by omega)]
     exact h6.2.symm
    ·refine h4 i (List.mem_filter.2 ⟨h5, ?_⟩) h6.2.symm
     rw [h6.1]
     simpa using hin
   ·rfl
 have own3 : ∀ b, C3.own0 b → ∃ o obj, hp1.get o = some obj ∧ blk (m o) = some b := fun b h => h
 -- the blocks
 have hkeep : ∀ b, im C m w hp b → w'.heap[b]? = w.heap[b]? := fun b hb => q3.frame b hb.1 fun h => by
  obtain ⟨o, obj, h1, h2⟩ := own3 b h
  exact hb.2.2 o obj (hsub o obj h1).1 h2
 have oldblk : ∀ o x b, hp.get o = some x → hp1.get o = none → blk (m o) = some b → w'.heap[b]? = w.heap[b]? := fun o x b h1 h2 h3 => q3.frame b ((I.live o x h1).blk_lt b h3) fun h => by
  obtain ⟨o', obj, h4, h5⟩ := own3 b h
  have hne : o ≠ o' := fun q => by subst q; rw [h2] at h4; cases h4
  exact I.sep o o' x obj b h1 (hsub _ _ h4).1 hne h3 h5
 have newblk : ∀ i obj b, (i, obj) ∈ X.out → blk (mm i) = some b → (∃ o x, hp1.get o = some x ∧ blk (m o) = some b) ∨ w.heap.size ≤ b := fun i obj b h1 h2 => q3.own i obj b (get_out h1 t5) h2
 have apart : ∀ o x i obj b, hp.get o = some x → hp1.get o = none → (i, obj) ∈ X.out → blk (mm i) = some b → blk (m o) ≠ some b := fun o x i obj b h1 h2 h3 h4 h5 => by
  rcases newblk i obj b h3 h4 with ⟨o', x', h6, h7⟩ | h6
  ·have hne : o ≠ o' := fun q => by subst q; rw [h2] at h6; cases h6
   exact I.sep o o' x x' b h1 (hsub _ _ h6).1 hne h5 h7
  ·have := (I.live o x h1).blk_lt b h5; omega
 have himp : ∀ b, im C3 mm w' X.hp' b → im C m' w' (e.up ++ hp) b := fun b hb => by
  refine ⟨hb.1, ?_, fun o x ho => ?_⟩
  ·rcases hb.2.1 with h | ⟨o, obj, h1, h2⟩ | h
   ·exact h.2.1
   ·rcases I.own o obj b (hsub _ _ h1).1 h2 with h | h
    ·exact .inr (.inl h)
    ·exact .inr (.inr h)
   ·exact .inr (.inr (Nat.le_trans I.size h))
  ·rcases getup o x ho with ⟨i, obj, h1, rfl, rfl⟩ | ⟨h1, h2⟩
   ·rw [hτ i (List.mem_map.2 ⟨_, h1, rfl⟩)]
    exact hb.2.2 i obj (get_out h1 t5)
   ·rw [old o fun hn => (hf hn _ _ h1).1]
    intro h3
    rcases hb.2.1 with h | ⟨o', obj, h4, h5⟩ | h
    ·exact h.2.2 o x h1 h3
    ·have hne : o ≠ o' := fun q => by subst q; rw [h2] at h4; cases h4
     exact I.sep o o' x obj b h1 (hsub _ _ h4).1 hne h3 h5
    ·have := (I.live o x h1).blk_lt b h3
     have h : w.heap.size ≤ b := h
     omega
 have himo : ∀ b, im C m w hp b → im C m' w' (e.up ++ hp) b ∧ w'.heap[b]? = w.heap[b]? := fun b hb => by
  refine ⟨⟨Nat.lt_of_lt_of_le hb.1 q3.size, hb.2.1, fun o x ho => ?_⟩, hkeep b hb⟩
  rcases getup o x ho with ⟨i, obj, h1, rfl, rfl⟩ | ⟨h1, h2⟩
  ·rw [hτ i (List.mem_map.2 ⟨_, h1, rfl⟩)]
   intro h3
   rcases newblk i obj b h1 h3 with ⟨o, x, h4, h5⟩ | h4
   ·exact hb.2.2 o x (hsub _ _ h4).1 h5
   ·have := hb.1; omega
  ·rw [old o fun hn => (hf hn _ _ h1).1]; exact hb.2.2 o x h1
 refine ⟨m', old, ⟨q3.os.trans I.os, q3.tape.trans I.tape, q3.output.trans I.output, Nat.le_trans I.size q3.size, fun b h1 h2 => ?_, fun o x ho => ?_, fun o o' x x' b ho ho' hne hb => ?_, fun o x b ho hb => ?_⟩, ?_, himo⟩
 ·have hlt : b < w.heap.size := Nat.lt_of_lt_of_le h1 I.size
  rw [q3.frame b hlt fun h => by
   obtain ⟨o, obj, h3, h4⟩ := own3 b h
   rcases I.own o obj b (hsub _ _ h3).1 h4 with h | h
   ·exact h2 h
   ·omega]
  exact I.frame b h1 h2
 ·rcases getup o x ho with ⟨i, obj, h1, rfl, rfl⟩ | ⟨h1, h2⟩
  ·have hin : i ∈ X.out.map (·.1) := List.mem_map.2 ⟨_, h1, rfl⟩
   have hob := q3.live i obj (get_out h1 t5)
   have := hob.rn (m' := m') (τ := X.τ d) (hτ i hin) fun j hj => hτ j (ids_in j (List.mem_append.2 (.inr ((upIds_mem (get_mem (get_out h1 t5)).1).2 j hj))))
   exact this.mono (m' := m') (w' := w') (fun b hb => ⟨himp b hb, rfl⟩) (fun _ _ => rfl) rfl (fun _ _ => rfl)
  ·exact (I.live o x h1).mono himo (fun b hb => oldblk o x b h1 h2 hb) (old o fun hn => (hf hn _ _ h1).1) fun i hi => old i fun hn q => (hf hn _ _ h1).2 (q ▸ hi)
 ·rcases getup o x ho with ⟨i, obj, h1, rfl, rfl⟩ | ⟨h1, h2⟩ <;> rcases getup o' x' ho' with ⟨i', obj', h3, rfl, rfl⟩ | ⟨h3, h4⟩
  ·rw [hτ i (List.mem_map.2 ⟨_, h1, rfl⟩)] at hb
   rw [hτ i' (List.mem_map.2 ⟨_, h3, rfl⟩)]
   exact q3.sep i i' obj obj' b (get_out h1 t5) (get_out h3 t5) (fun q => hne (by rw [q])) hb
  ·rw [hτ i (List.mem_map.2 ⟨_, h1, rfl⟩)] at hb
   rw [old o' fun hn => (hf hn _ _ h3).1]
   exact apart o' x' i obj b h3 h4 h1 hb
  ·rw [hτ i' (List.mem_map.2 ⟨_, h3, rfl⟩)]
   rw [old o fun hn => (hf hn _ _ h1).1] at hb
   exact fun q => apart o x i' obj' b h1 h2 h3 q hb
  ·rw [old o fun hn => (hf hn _ _ h1).1] at hb
   rw [old o' fun hn => (hf hn _ _ h3).1]
   exact I.sep o o' x x' b h1 h3 hne hb
 ·rcases getup o x ho with ⟨i, obj, h1, rfl, rfl⟩ | ⟨h1, h2⟩
  ·rw [hτ i (List.mem_map.2 ⟨_, h1, rfl⟩)] at hb
   rcases newblk i obj b h1 hb with ⟨o', x', h4, h5⟩ | h4
   ·exact I.own o' x' b (hsub _ _ h4).1 h5
   ·exact .inr (Nat.le_trans I.size h4)
  ·rw [old o fun hn => (hf hn _ _ h1).1] at hb
   exact I.own o x b h1 hb
 ·rw [e1]
  exact ((q4.rn (m' := m') (τ := X.τ d) fun i hi => hτ i (ids_in i (List.mem_append.2 (.inl hi)))).mono (m' := m') (fun b hb => ⟨himp b hb, rfl⟩) fun _ _ => rfl)
end
def Gam.addH (Γ : Gam) (g0 : Nat) (F : (Nat → Option AObj) → Nat → List AV → Option Eff) : Gam := fun g h d args => if g = g0 then F h d args else Γ g h d args
theorem Gok.addH {P : Program} {Γ : Gam} (hG : Gok P Γ) {g0 : Nat} {F : (Nat → Option AObj) → Nat → List AV → Option Eff}
  (hF : ∀ (hp : Hp) d args e, F hp.get d args = some e → e.sc → ∃ X : HCall, X.tidy = true ∧ HMatch hp args X ∧ HCalm P g0 X.args X.chp X.res X.hp' ∧ e.val = X.res.rn (X.τ d) ∧ (∀ o, Hp.get (e.up ++ hp) o = Hp.get (X.up d ++ hp) o) ∧ e.new = X.new) : Gok P (Γ.addH g0 F) := by
 intro g h d args e he hsc C m w hp vals hh I hsz hv hf
 unfold Gam.addH at he
 split at he
 case isFalse => exact hG g h d args e he hsc C m w hp vals hh I hsz hv hf
 rename_i hg
 subst hg hh
 obtain ⟨X, ht, hM, hc, e1, e2, e3⟩ := hF hp d args e he hsc
 exact hc.post ht hM e1 e2 e3 I hsz hv hf
theorem Gloc.addH {Γ : Gam} (h : Gloc Γ) (g0 : Nat) {F : (Nat → Option AObj) → Nat → List AV → Option Eff} (hF : ∀ d args h h', Agree (AV.ids.idsL args) h h' → F h d args = F h' d args) : Gloc (Γ.addH g0 F) := fun g d args h1 h2 ha => by
 unfold Gam.addH
 split
 ·exact hF d args h1 h2 ha
 ·exact h g d args h1 h2 ha
def retHR (P : Program) (rs : List ResultVar) (res : AV) (hp' : Hp) : Exit → St → Prop := retH P rs res hp'
theorem HBody.of {P : Program} {Γ : Gam} {D : Array Oper → St → (St → Prop) → Prop} {g : Nat} {args : List AV} {chp : Hp} {res : AV} {hp' : Hp} {fn : Func} {c : Code} {n : Nat} (h1 : P.funcs[g]? = some fn) (hn : fn.ntmps = n) (h2 : (fn.name == "runtime.NumGoroutine") = false) (h3 : fn.body = some c) {rs : List ResultVar} (hr : fn.results = rs.toArray)
  (hl : (Nat.ble args.length n && Nat.ble n 10000) = true) {u : List Nat} (hu : upIds chp = u) (h : wpc P Γ D c (retHR P rs res hp') ⟨n, u, startL 0 args, chp⟩) : HBody P Γ D g args chp res hp' := ⟨fn, c, h1, h2, h3, by rw [hn]; rw [Bool.and_eq_true] at hl; exact ⟨Nat.le_of_ble_eq_true hl.1, Nat.le_of_ble_eq_true hl.2⟩, by
 have hr' : rs = fn.results.toList := by rw [hr]
 subst hr' hu
 rw [hn]; exact h⟩
def retHE (c : AV) (res : AV) (hp hp' : Hp) : Prop := ∃ ρ : Nat → Nat, Mt (pr ρ) [] c res ∧ hpR (pr ρ) [] hp hp' ∧ distinct (pr ρ) [] (liveIds hp')
def retHF (P : Program) (rs : List ResultVar) (res : AV) (hp' : Hp) (s : St) : Prop :=
 match resL P s rs with
 | some l => retHE (one l) res s.hp hp'
 | none => False
theorem evH : (∀ (P : Program) (rs : List ResultVar) (res : AV) (hp' : Hp) (s : St), retHR P rs res hp' .ret s = retHF P rs res hp' s) ∧ (∀ (P : Program) (rs : List ResultVar) (res : AV) (hp' : Hp) (s : St), retHR P rs res hp' .normal s = retHF P rs res hp' s) := ⟨fun _ _ _ _ _ => rfl, fun _ _ _ _ _ => rfl⟩
theorem Known.addH {P : Program} {Γ : Gam} (K : Known P Γ) {g0 : Nat} {F : (Nat → Option AObj) → Nat → List AV → Option Eff}
  (hF : ∀ (hp : Hp) d args e, F hp.get d args = some e → e.sc → ∃ X : HCall, X.tidy = true ∧ HMatch hp args X ∧ HCalm P g0 X.args X.chp X.res X.hp' ∧ e.val = X.res.rn (X.τ d) ∧ (∀ o, Hp.get (e.up ++ hp) o = Hp.get (X.up d ++ hp) o) ∧ e.new = X.new)
  (hl : ∀ d args h h', Agree (AV.ids.idsL args) h h' → F h d args = F h' d args) : Known P (Γ.addH g0 F) := ⟨K.ok.addH hF, K.loc.addH g0 hl⟩
theorem Known.hcalm {P : Program} {Γ : Gam} (hm : P.follows .mixedOrders = true) (K : Known P Γ) {g : Nat} {args : List AV} {chp : Hp} {res : AV} {hp' : Hp} (hids : subL (AV.ids.idsL args) (upIds chp) = true) (h : HBody P Γ (DRun P Γ) g args chp res hp') : HCalm P g args chp res hp' :=
 h.calm K.ok (Draws hm K.ok K.loc) hids
theorem MtL_ds (ρ : Nat → Nat) (born : List Nat) : ∀ l : List Dat, Mt.MtL ρ born (l.map .d) (l.map .d)
 | [] => trivial
 | _ :: l => ⟨.inl rfl, MtL_ds ρ born l⟩
theorem evK : (∀ sl, lk sl (.const .nilIface) = .d (.v .nilIface)) ∧ (∀ sl, lk sl (.const (.pointer none)) = .d (.v (.pointer none))) ∧ (∀ sl, lk sl (.const .nilFunc) = .d (.v .nilFunc)) := ⟨fun _ => rfl, fun _ => rfl, fun _ => rfl⟩
theorem Mt_tup (ρ : Nat → Nat) (born : List Nat) (l' l : List AV) : Mt ρ born (.tup l') (.tup l) = Mt.MtL ρ born l' l := rfl
theorem Mt_agg (ρ : Nat → Nat) (born : List Nat) (l' l : List AV) : Mt ρ born (.agg l') (.agg l) = Mt.MtL ρ born l' l := rfl
theorem Mt_fn (ρ : Nat → Nat) (born : List Nat) (g' g : Nat) (l' l : List AV) : Mt ρ born (.fn g' l') (.fn g l) = (g' = g ∧ Mt.MtL ρ born l' l) := rfl
def limH (F : (Nat → Option AObj) → Nat → List AV → Option Eff) (μ : List AV → Nat) (n : Nat) (h : Nat → Option AObj) (d : Nat) (args : List AV) : Option Eff :=
 match F h d args with
 | some e => some { e with sc := e.sc ∧ μ args < n }
 | none => none
def HOk (P : Program) (g0 : Nat) (hp : Hp) (d : Nat) (args : List AV) (e : Eff) : Prop :=
 ∃ X : HCall, X.tidy = true ∧ HMatch hp args X ∧ HCalm P g0 X.args X.chp X.res X.hp' ∧ e.val = X.res.rn (X.τ d) ∧ (∀ o, Hp.get (e.up ++ hp) o = Hp.get (X.up d ++ hp) o) ∧ e.new = X.new
theorem Gok.recurH {P : Program} {Γ : Gam} (hG : Gok P Γ) {g0 : Nat} {F : (Nat → Option AObj) → Nat → List AV → Option Eff} (μ : List AV → Nat)
  (hF : ∀ n, Gok P (Γ.addH g0 (limH F μ n)) → ∀ (hp : Hp) d args e, F hp.get d args = some e → e.sc → μ args = n → HOk P g0 hp d args e) : Gok P (Γ.addH g0 F) := by
 have key : ∀ n, ∀ (hp : Hp) d args e, F hp.get d args = some e → e.sc → μ args = n → HOk P g0 hp d args e := fun n => by
  induction n using Nat.strongRecOn with
  | ind n ih =>
   refine hF n (hG.addH fun hp d args e h hs => ?_)
   unfold limH at h
   split at h
   ·rename_i e0 hf
    cases h
    exact ih _ hs.2 hp d args e0 hf hs.1 rfl
   ·cases h
 exact hG.addH fun hp d args e h hs => key _ hp d args e h hs rfl
end Go.Proofs.Ytgbialeahdoelaa.Eng

end

section
set_option linter.unusedVariables false
set_option linter.unusedSimpArgs false
namespace Go.Proofs.YtgbialeahdoelaaW.PrintWords
open Go.RowKit

structure Drawn0 (w w' : World) : Prop where mk :: (out : ∃ n, w' = w.drewN n)
theorem Drawn0.refl (w : World) : Drawn0 w w := ⟨⟨0, rfl⟩⟩
theorem Drawn0.grown {w w' : World} (h : Drawn0 w w') : Grown w w' := by
 obtain ⟨n, rfl⟩ := h
 induction n with
 | zero => exact Grown.refl _
 | succ n ih => rw [← World.drew_drewN]; exact Grown.drew ih
def bt (s : ByteArray) (i : Int) : Int := if h : i.toNat < s.size then ((s[i.toNat]'h).toNat : Int) else 0
def nums (k : IntKind) (xs : List Int) : List Value := xs.map fun x => .int k x
theorem pw_cell_below {w w1 : World} (h : Below w.heap.size w w1) {a : Addr} {v : Value} (hc : w.cell? a = some v) : w1.cell? a = some v := (h.cell (World.block_lt_of_cell? w a hc)).trans hc

def ReadsInt (w : World) (k : IntKind) (A : Option Addr) (n : Nat) (xs : List Int) : Prop :=
 xs.length = n ∧ n ≤ 9223372036854775807 ∧ (0 < n → ∃ ad, A = some ad ∧ ∀ j, j < n → w.cell? (ad.add j) = some (.int k (xs.getD j 0)))
theorem own_base {w : World} {base : Nat} {e : TypeId} {size n : Nat} {v : Value} {xs : List Value} (h : w.ownsRow base e size v n xs) (k : Nat) (hk : v.ownBlock = some k) : base ≤ k := by
 rcases h.2 with ⟨rfl, _⟩ | ⟨g, cap, cur, rfl, hb, _⟩
 ·simp [Value.ownBlock] at hk
 ·have : g = k := by simpa [Value.ownBlock] using hk
  omega
theorem own_lt {w : World} {base : Nat} {e : TypeId} {size n : Nat} {v : Value} {xs : List Value} (h : w.ownsRow base e size v n xs) (k : Nat) (hk : v.ownBlock = some k) : k < w.heap.size := by
 rcases h.2 with ⟨rfl, _⟩ | ⟨g, cap, cur, rfl, hb, hh, _⟩
 ·simp [Value.ownBlock] at hk
 ·have : g = k := by simpa [Value.ownBlock] using hk
  subst this
  exact (Array.getElem?_eq_some_iff.1 hh).1
theorem own_other {w w1 : World} {base : Nat} {e : TypeId} {size n : Nat} {v : Value} {xs : List Value} (h : w.ownsRow base e size v n xs) {row : Option Nat} (hg : w.grownBy w1 row) (hne : v.ownBlock = none ∨ v.ownBlock ≠ row) : w1.ownsRow base e size v n xs := h.kept hg hne
section
variable {P : Program} {ops : Array Oper} {rest : List Oper} {o : Oper} {a : Act} {Q : Exit → Act → World → Prop}

end

section
variable {P : Program}
end
section
variable {P : Program} {ops : Array Oper} {rest : List Oper} {o : Oper} {a : Act} {Q : Exit → Act → World → Prop}
end

def LeO {α : Type} (a b : Option α) : Prop := ∀ r, a = some r → b = some r
theorem LeO.refl {α : Type} (a : Option α) : LeO a a := fun _ h => h
theorem LeO.none {α : Type} (b : Option α) : LeO Option.none b := fun _ h => by cases h
theorem LeO.trans {α : Type} {a b c : Option α} (h : LeO a b) (k : LeO b c) : LeO a c := fun r hr => k r (h r hr)
theorem LeO.bind {α β : Type} {a a' : Option α} {f f' : α → Option β} (h : LeO a a') (k : ∀ x, LeO (f x) (f' x)) : LeO (a.bind f) (a'.bind f') := by
 intro r hr
 obtain ⟨x, hx, hf⟩ := Option.bind_eq_some_iff.1 hr
 exact Option.bind_eq_some_iff.2 ⟨x, h x hx, k x r hf⟩
theorem LeO.map {α β : Type} {a a' : Option α} (f : α → β) (h : LeO a a') : LeO (a.map f) (a'.map f) := by
 intro r hr
 obtain ⟨x, hx, hf⟩ := Option.map_eq_some_iff.1 hr
 exact Option.map_eq_some_iff.2 ⟨x, h x hx, hf⟩
theorem more_rounds {α : Type} {g : Nat → Option α} (h : ∀ k, LeO (g k) (g (k + 1))) (k : Nat) : ∀ j, LeO (g k) (g (k + j))
 | 0 => LeO.refl _
 | j + 1 => (more_rounds h k j).trans (h (k + j))
theorem at_rounds {α : Type} {g : Nat → Option α} (h : ∀ k, LeO (g k) (g (k + 1))) {k k' : Nat} (hk : k ≤ k') {r : α} (hr : g k = some r) : g k' = some r := by
 have := more_rounds h k (k' - k) r hr
 rwa [Nat.add_sub_cancel' hk] at this
def Reps {α : Type} (R : α → List Value → Prop) (size : Nat) (ps : List α) (cs : List Value) : Prop :=
 cs.length = ps.length * size ∧ ∀ j p, ps[j]? = some p → R p ((cs.drop (j * size)).take size)
theorem Reps.none {α : Type} (R : α → List Value → Prop) (size : Nat) : Reps R size [] [] := ⟨by simp, fun j p h => by simp at h⟩
theorem Reps.snoc {α : Type} {R : α → List Value → Prop} {size : Nat} {ps : List α} {cs c : List Value} {p : α} (h : Reps R size ps cs) (hp : R p c) (hc : c.length = size) : Reps R size (ps ++ [p]) (cs ++ c) := by
 refine ⟨by rw [List.length_append, h.1, hc, List.length_append, List.length_singleton, Nat.add_mul, Nat.one_mul], fun j q hq => ?_⟩
 rcases Nat.lt_or_ge j ps.length with hj | hj
 ·rw [List.getElem?_append_left hj] at hq
  have h1 : j * size + size ≤ cs.length := by rw [h.1, ← Nat.succ_mul]; exact Nat.mul_le_mul_right _ hj
  have h2 := h.2 j q hq
  rw [List.drop_append_of_le_length (by omega), List.take_append_of_le_length (by rw [List.length_drop]; omega)]
  exact h2
 ·have hj' : j = ps.length := by
   have := (List.getElem?_eq_some_iff.1 hq).1
   rw [List.length_append, List.length_singleton] at this
   omega
  subst hj'
  have hq' : p = q := by simpa using hq
  subst hq'
  rw [← h.1, List.drop_left, ← hc, List.take_length]
  exact hp
theorem Reps.imp_ {α : Type} {R R' : α → List Value → Prop} {size : Nat} {ps : List α} {cs : List Value} (h : Reps R size ps cs) (hR : ∀ p c, R p c → R' p c) : Reps R' size ps cs := ⟨h.1, fun j p hj => hR _ _ (h.2 j p hj)⟩

def ReadsRow {α : Type} (R : α → List Value → Prop) (size : Nat) (w : World) (A : Option Addr) (n : Nat) (ps : List α) : Prop :=
 ps.length = n ∧ n ≤ 9223372036854775807 ∧ (0 < n → ∃ ad, A = some ad ∧ ∀ j p, ps[j]? = some p → ∃ c, c.length = size ∧ R p c ∧ ∀ i u, c[i]? = some u → w.cell? (ad.add (j * size + i)) = some u)
theorem ReadsRow.imp_ {α : Type} {R R' : α → List Value → Prop} {size : Nat} {w w1 : World} {A : Option Addr} {n : Nat} {ps : List α} (h : ReadsRow R size w A n ps) (hb : Below w.heap.size w w1) (hR : ∀ p c, R p c → R' p c) : ReadsRow R' size w1 A n ps :=
 ⟨h.1, h.2.1, fun hn => by
  obtain ⟨ad, e, hc⟩ := h.2.2 hn
  refine ⟨ad, e, fun j p hj => ?_⟩
  obtain ⟨c, hs, hr, hcell⟩ := hc j p hj
  exact ⟨c, hs, hR _ _ hr, fun i u hu => pw_cell_below hb (hcell i u hu)⟩⟩
theorem own_reads_row {α : Type} {R : α → List Value → Prop} {w : World} {base n size : Nat} {e : TypeId} {v : Value} {ps : List α} {cs : List Value} (h : w.ownsRow base e size v n cs) (hR : Reps R size ps cs) (hn : ps.length = n) :
  ∃ A c, v = .slice A n c ∧ ReadsRow R size w A n ps := by
 rcases Nat.eq_zero_or_pos n with h0 | h0
 ·rcases h.2 with ⟨rfl, rfl⟩ | ⟨g, cap, cur, rfl, _⟩
  ·exact ⟨none, 0, rfl, hn, by omega, fun hp => absurd hp (by omega)⟩
  ·exact ⟨_, cap, rfl, hn, by omega, fun hp => absurd hp (by omega)⟩
 ·obtain ⟨g, cap, rfl, _, _⟩ := h.form h0
  have hm : n ≤ 9223372036854775807 := by
   rcases h.2 with ⟨_, h1⟩ | ⟨g', cap', cur, he, _, _, h1, h2, _⟩
   ·omega
   ·simp only [maxLen] at h2
    omega
  refine ⟨_, cap, rfl, hn, hm, fun _ => ⟨_, rfl, fun j p hj => ⟨(cs.drop (j * size)).take size, ?_, hR.2 j p hj, fun i u hu => ?_⟩⟩⟩
  ·have hjl := (List.getElem?_eq_some_iff.1 hj).1
   have h1 : j * size + size ≤ cs.length := by rw [hR.1, ← Nat.succ_mul]; exact Nat.mul_le_mul_right _ hjl
   rw [List.length_take, List.length_drop]
   omega
  ·refine h.cells (g := g) rfl _ u ?_
   rw [List.getElem?_take] at hu
   split at hu
   ·rw [List.getElem?_drop] at hu
    exact hu
   ·cases hu
section
variable {P : Program} {ops : Array Oper} {rest : List Oper} {o : Oper} {a : Act} {Q : Exit → Act → World → Prop}
theorem print_append_cells {w0 W : World} (base : Nat) (hgd : o.guard = none) (s x : Operand) (t e : TypeId) (z : Value) (size bytes : Nat)
  (ho : o.op = .call { callee := .builtin .append, args := #[s, x], argTypes := #[t, t] })
  (ht : P.underlying t = some (.slice e)) (hinfo : (P.info? e).map (fun i => (i.zero, i.size, i.bytes)) = some (some z, size, bytes)) (hz : z.cells.size = size) (hs0 : 0 < size) (hb0 : 0 < bytes)
  (v : Value) (n : Nat) (xs ys : List Value) (hs : a.eval s = v) (hx : a.eval x = .slice (some ⟨W.heap.size, 0, none⟩) 1 1) (hys : ys.length = size) (h1 : ∀ u ∈ ys, u.oneCell' = true)
  (HO : W.ownsRow base e size v n xs) (HB : Below base w0 W) (hbase : base ≤ W.heap.size) (hl : (n + 1) * bytes ≤ 140737488355328)
  (h : ∀ v1 w1, w1.ownsRow base e size v1 (n + 1) (xs ++ ys) → Below base w0 w1 → W.grownBy w1 v.ownBlock → (v1.ownBlock = v.ownBlock ∨ ∃ b, v1.ownBlock = some b ∧ W.heap.size ≤ b) → wpList P ops Q rest (a.put o.dst v1) w1) :
  wpList P ops Q (o :: rest) a (W.alloc (.cells ys.toArray e)) := by
 obtain ⟨i0, hi, hzz⟩ := Option.map_eq_some_iff.1 hinfo
 simp only [Prod.mk.injEq] at hzz
 obtain ⟨hz0, hz1, hz2⟩ := hzz
 have hlen : n + 1 ≤ 140737488355328 := Nat.le_trans (Nat.le_mul_of_pos_right _ hb0) hl
 refine wpList_append_own_at (W.alloc (.cells ys.toArray e)) hgd s x t ho base e i0 z size bytes ht hi hz0 hz1 hz2 hz hs0 v n xs hs (HO.alloc _) ⟨W.heap.size, 0, none⟩ 1 1 ys hx (by rw [hys]; simp)
  (by simpa using World.news_of_block (cs := ys.toArray) (t := e) (fr := (0, 0)) (heap_alloc_new W (.cells ys.toArray e))) h1 (by simp only [maxLen]; omega) hl (by simp; omega) ?_
 intro v1 w1 hown hg _ hat
 refine h v1 w1 hown ((HB.alloc hbase _).grown hg (by simp; omega) (own_base HO)) (World.grownBy.trans (World.grownBy_alloc W _ _) hg) ?_
 rcases hat with hat | hat
 ·exact .inl hat
 ·exact .inr ⟨_, hat, by simp⟩
end

theorem own_ne {w : World} {base : Nat} {e t : TypeId} {size n g : Nat} {v : Value} {xs : List Value} {cs : Array Value} (h : w.ownsRow base e size v n xs) (hg : w.heap[g]? = some (.cells cs t (0, 0))) (hne : e ≠ t) : some g ≠ v.ownBlock := by
 rcases h.2 with ⟨rfl, _⟩ | ⟨g', cap, cur, rfl, _, hh, _⟩
 ·simp [Value.ownBlock]
 ·intro he
  have : g = g' := by simpa [Value.ownBlock] using he
  subst this
  rw [hg] at hh
  injection hh with hh
  injection hh with _ ht
  exact hne ht.symm
theorem blk_lt {w : World} {g : Nat} {o : Obj} (h : w.heap[g]? = some o) : g < w.heap.size := (Array.getElem?_eq_some_iff.1 h).1
def KeepBut (w w' : World) (g : Nat) (row : Option Nat) : Prop := w.heap.size ≤ w'.heap.size ∧ ∀ i, i < w.heap.size → i ≠ g → some i ≠ row → w'.heap[i]? = w.heap[i]?
theorem KeepBut.refl (w : World) (g : Nat) (row : Option Nat) : KeepBut w w g row := ⟨Nat.le_refl _, fun _ _ _ _ => rfl⟩
theorem KeepBut.trans {w w1 w2 : World} {g : Nat} {row row1 : Option Nat} (h : KeepBut w w1 g row) (k : KeepBut w1 w2 g row1) (hr : row1 = row ∨ ∃ b, row1 = some b ∧ w.heap.size ≤ b) : KeepBut w w2 g row :=
 ⟨Nat.le_trans h.1 k.1, fun i hi hg hn => by
  refine (k.2 i (Nat.lt_of_lt_of_le hi h.1) hg ?_).trans (h.2 i hi hg hn)
  rcases hr with rfl | ⟨b, rfl, hb⟩
  ·exact hn
  ·intro e
   injection e with e
   omega⟩
theorem KeepBut.blk {w w1 : World} {g g' : Nat} {row : Option Nat} {o : Obj} (h : KeepBut w w1 g row) (hb : w.heap[g']? = some o) (hg : g' ≠ g) (hr : some g' ≠ row) : w1.heap[g']? = some o := (h.2 g' (blk_lt hb) hg hr).trans hb
theorem KeepBut.own {w w1 : World} {g : Nat} {row : Option Nat} {base : Nat} {e : TypeId} {size n : Nat} {v : Value} {xs : List Value} (h : KeepBut w w1 g row) (ho : w.ownsRow base e size v n xs) (hg : v.ownBlock ≠ some g) (hr : v.ownBlock = none ∨ v.ownBlock ≠ row) : w1.ownsRow base e size v n xs := by
 obtain ⟨h1, h2⟩ := ho
 refine ⟨h1, ?_⟩
 rcases h2 with h2 | ⟨b, cap, cur, rfl, hb, hh, r⟩
 ·exact .inl h2
 ·refine .inr ⟨b, cap, cur, rfl, hb, h.blk hh ?_ ?_, r⟩
  ·intro e
   exact hg (by rw [← e]; rfl)
  ·rcases hr with hr | hr
   ·simp [Value.ownBlock] at hr
   ·exact hr
def Ev {α : Type} (g : Nat → Option α) (r : α) : Prop := ∃ K, ∀ k, K ≤ k → g k = some r
theorem Ev.of {α : Type} {g : Nat → Option α} {r : α} (hg : ∀ k, LeO (g k) (g (k + 1))) {k : Nat} (h : g k = some r) : Ev g r := ⟨k, fun _ hk => at_rounds hg hk h⟩
theorem Ev.bind {α β : Type} {g : Nat → Option α} {f : Nat → α → Option β} {a : α} {r : β} (h : Ev g a) (k : Ev (fun n => f n a) r) : Ev (fun n => (g n).bind (f n)) r := by
 obtain ⟨K, h⟩ := h
 obtain ⟨K', k⟩ := k
 refine ⟨max K K', fun n hn => ?_⟩
 have h1 := h n (by omega)
 have h2 := k n (by omega)
 simp only [h1, Option.bind_some]
 exact h2
theorem Ev.congr {α : Type} {g f : Nat → Option α} {r : α} (h : ∀ k, g k = f k) (k : Ev f r) : Ev g r := by
 obtain ⟨K, k⟩ := k
 exact ⟨K, fun n hn => (h n).trans (k n hn)⟩
section
variable {P : Program} {ops : Array Oper} {o : Oper} {a : Act} {Q : Exit → Act → World → Prop} {K : Act → World → Prop}
end
theorem own_weaken {w : World} {base base' : Nat} {e : TypeId} {size n : Nat} {v : Value} {xs : List Value} (h : w.ownsRow base e size v n xs) (hb : base' ≤ base) : w.ownsRow base' e size v n xs := by
 obtain ⟨h1, h2⟩ := h
 refine ⟨h1, ?_⟩
 rcases h2 with h2 | ⟨g, cap, cur, rfl, hg, r⟩
 ·exact .inl h2
 ·exact .inr ⟨g, cap, cur, rfl, Nat.le_trans hb hg, r⟩
section
variable {α : Type} {enc : α → Value} {d : α}
def ReadsOf (enc : α → Value) (d : α) (w : World) (A : Option Addr) (n : Nat) (xs : List α) : Prop :=
 xs.length = n ∧ n ≤ 9223372036854775807 ∧ (0 < n → ∃ ad, A = some ad ∧ ∀ j, j < n → w.cell? (ad.add j) = some (enc (xs.getD j d)))
end
section
variable {α : Type} {P : Program} {ops : Array Oper} {rest : List Oper} {o : Oper} {a : Act} {Q : Exit → Act → World → Prop}
end

section
variable {P : Program}
end
theorem own_le {w : World} {base n m c size : Nat} {e : TypeId} {A : Option Addr} {xs : List Value} (h : w.ownsRow base e size (.slice A m c) n xs) : m ≤ c := by
 rcases h.2 with ⟨he, _⟩ | ⟨g, cap, cur, he, _, _, hnc, _⟩
 ·injection he with _ h2 h3
  omega
 ·injection he with _ h2 h3
  omega
def OwnRow {α : Type} (R : α → List Value → Prop) (e : TypeId) (size : Nat) (w : World) (base : Nat) (v : Value) (ps : List α) : Prop :=
 ∃ inner, w.ownsRow base e size v ps.length inner ∧ Reps R size ps inner
section
variable {α : Type} {R R' : α → List Value → Prop} {e : TypeId} {size : Nat} {w w1 : World} {base : Nat} {v : Value} {ps : List α}
theorem OwnRow.imp_ (h : OwnRow R e size w base v ps) (hR : ∀ p c, R p c → R' p c) : OwnRow R' e size w base v ps := by
 obtain ⟨inner, ho, hr⟩ := h
 exact ⟨inner, ho, hr.imp_ hR⟩
theorem OwnRow.other (h : OwnRow R e size w base v ps) {row : Option Nat} (hg : w.grownBy w1 row) (hne : v.ownBlock = none ∨ v.ownBlock ≠ row) : OwnRow R e size w1 base v ps := by
 obtain ⟨inner, ho, hr⟩ := h
 exact ⟨inner, own_other ho hg hne, hr⟩
theorem OwnRow.keep (h : OwnRow R e size w base v ps) {g : Nat} {t : TypeId} {cells : Array Value} (hb : w.heap[g]? = some (.cells cells t (0, 0))) (ht : e ≠ t) (hk : KeepBut w w1 g none) : OwnRow R e size w1 base v ps := by
 obtain ⟨inner, ho, hr⟩ := h
 exact ⟨inner, hk.own ho (Ne.symm (own_ne ho hb ht)) (by cases v.ownBlock <;> simp), hr⟩
theorem OwnRow.reads (h : OwnRow R e size w base v ps) : ∃ A c, v = .slice A ps.length c ∧ ps.length ≤ c ∧ ReadsRow R size w A ps.length ps := by
 obtain ⟨inner, ho, hr⟩ := h
 obtain ⟨A, c, rfl, hrow⟩ := own_reads_row ho hr rfl
 exact ⟨A, c, rfl, own_le ho, hrow⟩
theorem OwnRow.lit (W : World) (base : Nat) {inner : List Value} (hr : Reps R size ps inner) (hb : base ≤ W.heap.size) (hm : ps.length ≤ 9223372036854775807) :
  OwnRow R e size (W.alloc (.cells inner.toArray e)) base (.slice (some ⟨W.heap.size, 0, none⟩) ps.length ps.length) ps := by
 have h := World.ownsRow_lit (base := base) (e := e) (size := size) W inner.toArray ps.length hb (by simpa [maxLen] using hm) (by simpa using hr.1)
 exact ⟨inner, by simpa using h, hr⟩
end
section
variable {P : Program} {ops : Array Oper} {rest : List Oper} {o : Oper} {a : Act} {Q : Exit → Act → World → Prop} {α : Type} {R : α → List Value → Prop}
theorem OwnRow.append {w0 W : World} (base : Nat) (hgd : o.guard = none) (s x : Operand) (t e : TypeId) (z : Value) (size bytes : Nat)
  (ho : o.op = .call { callee := .builtin .append, args := #[s, x], argTypes := #[t, t] })
  (ht : P.underlying t = some (.slice e)) (hinfo : (P.info? e).map (fun i => (i.zero, i.size, i.bytes)) = some (some z, size, bytes)) (hz : z.cells.size = size) (hs0 : 0 < size) (hb0 : 0 < bytes)
  (v : Value) (ps : List α) (p : α) (cs : List Value) (hs : a.eval s = v) (hx : a.eval x = .slice (some ⟨W.heap.size, 0, none⟩) 1 1) (hp : R p cs) (hcs : cs.length = size) (h1 : ∀ u ∈ cs, u.oneCell' = true)
  (HO : OwnRow R e size W base v ps) (HB : Below base w0 W) (hbase : base ≤ W.heap.size) (hl : (ps.length + 1) * bytes ≤ 140737488355328)
  (h : ∀ v1 w1, OwnRow R e size w1 base v1 (ps ++ [p]) → Below base w0 w1 → W.grownBy w1 v.ownBlock → (v1.ownBlock = v.ownBlock ∨ ∃ b, v1.ownBlock = some b ∧ W.heap.size ≤ b) → wpList P ops Q rest (a.put o.dst v1) w1) :
  wpList P ops Q (o :: rest) a (W.alloc (.cells cs.toArray e)) := by
 obtain ⟨inner, hown, hr⟩ := HO
 refine print_append_cells base hgd s x t e z size bytes ho ht hinfo hz hs0 hb0 v ps.length inner cs hs hx hcs h1 hown HB hbase hl ?_
 intro v1 w1 hown1 hb1 hg1 hat1
 exact h v1 w1 ⟨inner ++ cs, by rw [List.length_append, List.length_singleton]; exact hown1, hr.snoc hp hcs⟩ hb1 hg1 hat1
end
section
variable {P : Program} {ops : Array Oper} {o : Oper} {a : Act} {Q : Exit → Act → World → Prop} {K : Act → World → Prop} {α : Type} {R : α → List Value → Prop}
end
section
variable {α : Type} {P : Program}
theorem ReadsOf.len_ {enc : α → Value} {d : α} {w : World} {A : Option Addr} {n : Nat} {xs : List α} (h : ReadsOf enc d w A n xs) : ReadsOf enc d w A xs.length xs := by rw [h.1]; exact h
end

section
variable {P : Program} {ops : Array Oper} {rest : List Oper} {o : Oper} {a : Act} {Q : Exit → Act → World → Prop}
end
structure Kd (α : Type) where
 sz : Nat
 E : List Nat
 K : World → α → List Value → Prop
 M : World → Nat → (Nat → Prop) → α → List Value → Prop
 K_len : ∀ {w x cs}, K w x cs → cs.length = sz
 K_one : ∀ {w x cs}, K w x cs → ∀ u ∈ cs, u.oneCell' = true
 K_below : ∀ {w w1 : World} {x cs}, Below w.heap.size w w1 → K w x cs → K w1 x cs
 K_of_M : ∀ {w base ok x cs}, M w base ok x cs → K w x cs
 M_mono : ∀ {w base ok ok' x cs}, (∀ k, ok k → ok' k) → M w base ok x cs → M w base ok' x cs
 M_bound : ∀ {w : World} {base ok x cs}, M w base ok x cs → M w base (fun k => ok k ∧ base ≤ k ∧ k < w.heap.size ∧ ∃ q, q ∈ E ∧ ∃ cells, w.heap[k]? = some (.cells cells q (0, 0))) x cs
 M_move : ∀ {w w1 : World} {base ok x cs}, (∀ k, ok k → w1.heap[k]? = w.heap[k]?) → M w base ok x cs → M w1 base ok x cs
 M_lower : ∀ {w base base' ok x cs}, base' ≤ base → M w base ok x cs → M w base' ok x cs

theorem own_move {w w1 : World} {base : Nat} {e : TypeId} {size n : Nat} {v : Value} {xs : List Value} (h : w.ownsRow base e size v n xs) (hm : ∀ k, v.ownBlock = some k → w1.heap[k]? = w.heap[k]?) : w1.ownsRow base e size v n xs := by
 obtain ⟨h1, h2⟩ := h
 refine ⟨h1, ?_⟩
 rcases h2 with h2 | ⟨g, cap, cur, rfl, hg, hh, r⟩
 ·exact .inl h2
 ·exact .inr ⟨g, cap, cur, rfl, hg, (hm g (by simp [Value.ownBlock])).trans hh, r⟩
theorem own_typed {w : World} {base : Nat} {e : TypeId} {size n : Nat} {v : Value} {xs : List Value} (h : w.ownsRow base e size v n xs) (k : Nat) (hk : v.ownBlock = some k) : ∃ cells, w.heap[k]? = some (.cells cells e (0, 0)) := by
 rcases h.2 with ⟨rfl, _⟩ | ⟨g, cap, cur, rfl, hg, hh, r⟩
 ·simp [Value.ownBlock] at hk
 ·have : g = k := by simpa [Value.ownBlock] using hk
  subst this
  exact ⟨cur, hh⟩

namespace Kd
def C {α : Type} (d : Kd α) (w : World) (A : Option Addr) (n : Nat) (xs : List α) : Prop := ReadsRow (d.K w) d.sz w A n xs
def R {α : Type} (d : Kd α) (e : Nat) (w : World) (base : Nat) (ok : Nat → Prop) (v : Value) (xs : List α) : Prop :=
 (∀ k, v.ownBlock = some k → ok k) ∧ OwnRow (d.M w base (fun k => ok k ∧ some k ≠ v.ownBlock)) e d.sz w base v xs
section
variable {α : Type} {d : Kd α} {e : Nat} {w w1 : World} {base : Nat} {ok ok' : Nat → Prop} {v : Value} {xs : List α}
theorem C_below {A : Option Addr} {n : Nat} (h : d.C w A n xs) (hb : Below w.heap.size w w1) : d.C w1 A n xs := ReadsRow.imp_ h hb (fun _ _ hp => d.K_below hb hp)
theorem R_mono (h : d.R e w base ok v xs) (hok : ∀ k, ok k → ok' k) : d.R e w base ok' v xs := ⟨fun k hk => hok k (h.1 k hk), h.2.imp_ (fun _ _ hp => d.M_mono (fun k hk => ⟨hok k hk.1, hk.2⟩) hp)⟩
theorem R_bound (h : d.R e w base ok v xs) : d.R e w base (fun k => ok k ∧ base ≤ k ∧ k < w.heap.size ∧ ∃ q, q ∈ e :: d.E ∧ ∃ cells, w.heap[k]? = some (.cells cells q (0, 0))) v xs := by
 obtain ⟨h0, inner, ho, hr⟩ := h
 refine ⟨fun k hk => ?_, inner, ho, hr.imp_ (fun _ _ hp => d.M_mono (fun k hk => ?_) (d.M_bound hp))⟩
 ·obtain ⟨cells, hc⟩ := own_typed ho k hk
  exact ⟨h0 k hk, own_base ho k hk, own_lt ho k hk, e, List.mem_cons_self, cells, hc⟩
 ·obtain ⟨⟨h1, h2⟩, h3, h4, q, hq, hc⟩ := hk
  exact ⟨⟨h1, h3, h4, q, List.mem_cons_of_mem _ hq, hc⟩, h2⟩
theorem R_move (h : d.R e w base ok v xs) (hm : ∀ k, ok k → w1.heap[k]? = w.heap[k]?) : d.R e w1 base ok v xs := by
 obtain ⟨h0, inner, ho, hr⟩ := h
 exact ⟨h0, inner, own_move ho (fun k hk => hm k (h0 k hk)), hr.imp_ (fun _ _ hp => d.M_move (fun k hk => hm k hk.1) hp)⟩
theorem R_lower {base' : Nat} (h : d.R e w base ok v xs) (hb : base' ≤ base) : d.R e w base' ok v xs := by
 obtain ⟨h0, inner, ho, hr⟩ := h
 exact ⟨h0, inner, own_weaken ho hb, hr.imp_ (fun _ _ hp => d.M_lower hb hp)⟩
theorem R_reads (h : d.R e w base ok v xs) : ∃ A c, v = .slice A xs.length c ∧ xs.length ≤ c ∧ d.C w A xs.length xs := by
 obtain ⟨A, c, he, hl, hr⟩ := OwnRow.reads h.2
 exact ⟨A, c, he, hl, hr.imp_ (Below.refl _ _) (fun _ _ hp => d.K_of_M hp)⟩
end

def scalar {α : Type} (enc : α → Value) (h1 : ∀ x, (enc x).oneCell' = true) : Kd α where
 sz := 1
 E := []
 K := fun _ x cs => cs = [enc x]
 M := fun _ _ _ x cs => cs = [enc x]
 K_len := fun h => by rw [h]; rfl
 K_one := fun h u hu => by
  rw [h] at hu
  rw [List.mem_singleton.1 hu]
  exact h1 _
 K_below := fun _ h => h
 K_of_M := fun h => h
 M_mono := fun _ h => h
 M_bound := fun h => h
 M_move := fun _ h => h
 M_lower := fun _ h => h
def int (k : IntKind) : Kd Int := scalar (Value.int k) (fun _ => rfl)
def bool : Kd Bool := scalar Value.bool (fun _ => rfl)
def string : Kd ByteArray := scalar Value.string (fun _ => rfl)
def slice {α : Type} (e : Nat) (d : Kd α) : Kd (List α) where
 sz := 1
 E := e :: d.E
 K := fun w xs cs => ∃ A c, cs = [.slice A xs.length c] ∧ xs.length ≤ c ∧ d.C w A xs.length xs
 M := fun w base ok xs cs => ∃ v, cs = [v] ∧ d.R e w base ok v xs
 K_len := by
  rintro w x cs ⟨A, c, rfl, _⟩
  rfl
 K_one := by
  rintro w x cs ⟨A, c, rfl, _⟩ u hu
  rw [List.mem_singleton.1 hu]
  rfl
 K_below := by
  rintro w w1 x cs hb ⟨A, c, rfl, hl, hr⟩
  exact ⟨A, c, rfl, hl, C_below hr hb⟩
 K_of_M := by
  rintro w base ok x cs ⟨v, rfl, h⟩
  obtain ⟨A, c, rfl, hl, hr⟩ := R_reads h
  exact ⟨A, c, rfl, hl, hr⟩
 M_mono := by
  rintro w base ok ok' x cs hok ⟨v, rfl, h⟩
  exact ⟨v, rfl, R_mono h hok⟩
 M_bound := by
  rintro w base ok x cs ⟨v, rfl, h⟩
  exact ⟨v, rfl, R_bound h⟩
 M_move := by
  rintro w w1 base ok x cs hm ⟨v, rfl, h⟩
  exact ⟨v, rfl, R_move h hm⟩
 M_lower := by
  rintro w base base' ok x cs hb ⟨v, rfl, h⟩
  exact ⟨v, rfl, R_lower h hb⟩
def bot {α : Type} (sz : Nat) (E : List Nat) : Kd α where
 sz := sz
 E := E
 K := fun _ _ _ => False
 M := fun _ _ _ _ _ => False
 K_len := fun h => h.elim
 K_one := fun h => h.elim
 K_below := fun _ h => h
 K_of_M := fun h => h
 M_mono := fun _ h => h
 M_bound := fun h => h
 M_move := fun _ h => h
 M_lower := fun _ h => h
def upto {α : Type} (F : Kd α → Kd α) (sz : Nat) (E : List Nat) : Nat → Kd α
 | 0 => bot sz E
 | n + 1 => F (upto F sz E n)
def fix {α : Type} (F : Kd α → Kd α) (sz : Nat) (E : List Nat) (hs : ∀ n, (upto F sz E n).sz = sz) (hE : ∀ n q, q ∈ (upto F sz E n).E → q ∈ E) : Kd α where
 sz := sz
 E := E
 K := fun w x cs => ∃ n, (upto F sz E n).K w x cs
 M := fun w base ok x cs => ∃ n, (upto F sz E n).M w base ok x cs
 K_len := by
  rintro w x cs ⟨n, h⟩
  rw [(upto F sz E n).K_len h, hs n]
 K_one := by
  rintro w x cs ⟨n, h⟩
  exact (upto F sz E n).K_one h
 K_below := by
  rintro w w1 x cs hb ⟨n, h⟩
  exact ⟨n, (upto F sz E n).K_below hb h⟩
 K_of_M := by
  rintro w base ok x cs ⟨n, h⟩
  exact ⟨n, (upto F sz E n).K_of_M h⟩
 M_mono := by
  rintro w base ok ok' x cs hok ⟨n, h⟩
  exact ⟨n, (upto F sz E n).M_mono hok h⟩
 M_bound := by
  rintro w base ok x cs ⟨n, h⟩
  refine ⟨n, (upto F sz E n).M_mono ?_ ((upto F sz E n).M_bound h)⟩
  rintro k ⟨h2, h3, h4, q, hq, hc⟩
  exact ⟨h2, h3, h4, q, hE n q hq, hc⟩
 M_move := by
  rintro w w1 base ok x cs hm ⟨n, h⟩
  exact ⟨n, (upto F sz E n).M_move hm h⟩
 M_lower := by
  rintro w base base' ok x cs hb ⟨n, h⟩
  exact ⟨n, (upto F sz E n).M_lower hb h⟩

section
variable {P : Program} {ops : Array Oper} {rest : List Oper} {o : Oper} {a : Act} {Q : Exit → Act → World → Prop} {α : Type}
end
section
variable {P : Program} {ops : Array Oper} {o : Oper} {a : Act} {Q : Exit → Act → World → Prop} {Kc : Act → World → Prop} {α : Type}
end
end Kd
namespace Kd
def Sub {α β : Type} (F : Kd α → Kd β) (E : List Nat) : Prop := ∀ d : Kd α, (∀ q, q ∈ d.E → q ∈ E) → ∀ q, q ∈ (F d).E → q ∈ E
section
variable {α : Type} {F : Kd α → Kd α} {sz : Nat} {E : List Nat} {hs : ∀ n, (upto F sz E n).sz = sz} {hE : ∀ n q, q ∈ (upto F sz E n).E → q ∈ E}
end
end Kd
namespace Kd
end Kd
namespace Kd
section
variable {α β : Type} {d : Kd α} {d' : Kd β} {e e' : Nat} {w w1 W : World} {base b b' : Nat} {ok ok' okv oku : Nat → Prop} {v u : Value} {xs : List α} {ys : List β}
end
section
variable {w W : World} {A : Option Addr} {n : Nat}
variable {α : Type} {enc : α → Value} {h1 : ∀ x, (enc x).oneCell' = true} {e base g cap : Nat} {ok : Nat → Prop} {xs : List α}
end

section
variable {P : Program} {ops : Array Oper} {rest : List Oper} {o : Oper} {a : Act} {Q : Exit → Act → World → Prop}
variable {α : Type}
end
end Kd
section
variable {P : Program}
end
def QRow (w : World) (base : Nat) (e : TypeId) (size : Nat) (v : Value) (n : Nat) (xs : List Value) : Prop :=
  xs.length = n * size ∧
  ((n = 0 ∧ ∃ A, v = .slice A 0 0 ∧ ∀ a, A = some a → base ≤ a.block ∧ ∃ cur, w.heap[a.block]? = some (.cells cur e (0, 0))) ∨
   ∃ g off cap cur, v = .slice (some ⟨g, off * size, none⟩) n cap ∧ base ≤ g ∧ w.heap[g]? = some (.cells cur e (0, 0)) ∧ n ≤ cap ∧ off + cap ≤ maxLen ∧ cur.size = (off + cap) * size ∧ (cur.toList.drop (off * size)).take (n * size) = xs)
section
variable {w w1 : World} {base n size : Nat} {e : TypeId} {v : Value} {xs : List Value}
end
section
variable {P : Program}
end
namespace Kd
def Q {α : Type} (d : Kd α) (e : Nat) (w : World) (base : Nat) (ok : Nat → Prop) (v : Value) (xs : List α) : Prop :=
 (∀ k, v.ownBlock = some k → ok k) ∧ ∃ inner, QRow w base e d.sz v xs.length inner ∧ Reps (d.M w base (fun k => ok k ∧ some k ≠ v.ownBlock)) d.sz xs inner
section
variable {α : Type} {d : Kd α} {e : Nat} {w w1 W : World} {base : Nat} {ok ok' : Nat → Prop} {v : Value} {xs : List α}
end
section
variable {P : Program} {ops : Array Oper} {rest : List Oper} {o : Oper} {a : Act} {Q' : Exit → Act → World → Prop} {Kc : Act → World → Prop} {α : Type}
end
end Kd
namespace Kd
section
variable {α : Type} {d : Kd α} {e e' : Nat} {w w1 W : World} {base : Nat} {ok : Nat → Prop} {u v : Value} {xs : List α}
end
end Kd
theorem seg_get {α : Type} (a seg : List α) (o : Nat) (h : o + seg.length ≤ a.length) (q : Nat) :
  (a.take o ++ seg ++ a.drop (o + seg.length))[q]? = if q < o then a[q]? else if q < o + seg.length then seg[q - o]? else a[q]? := by
 have hl : (a.take o).length = o := by rw [List.length_take]; omega
 rw [List.append_assoc]
 by_cases h1 : q < o
 ·rw [if_pos h1, List.getElem?_append_left (by omega), List.getElem?_take, if_pos h1]
 ·rw [if_neg h1, List.getElem?_append_right (by omega), hl]
  by_cases h2 : q < o + seg.length
  ·rw [if_pos h2, List.getElem?_append_left (by omega)]
  ·rw [if_neg h2, List.getElem?_append_right (by omega), List.getElem?_drop]
   congr 1
   omega
namespace Kd
section
variable {α : Type} {d : Kd α} {e base g n cap : Nat} {ok okp : Nat → Prop} {W : World} {xs : List α}
end
end Kd
namespace Kd
section
variable {α : Type} {F : Kd α → Kd α} {sz : Nat} {E : List Nat} {hs : ∀ n, (upto F sz E n).sz = sz} {hE : ∀ n q, q ∈ (upto F sz E n).E → q ∈ E}
end
end Kd
namespace Kd
section
variable {P : Program} {ops : Array Oper} {rest : List Oper} {o : Oper} {a : Act} {Q : Exit → Act → World → Prop} {α : Type}
end
end Kd
namespace Kd
section
variable {P : Program} {ops : Array Oper} {rest : List Oper} {o : Oper} {a : Act} {Q : Exit → Act → World → Prop} {α : Type}
end
end Kd
theorem add_add (a : Addr) (i j : Nat) : (a.add i).add j = a.add (i + j) := by
 unfold Addr.add
 by_cases h1 : i = 0 <;> by_cases h2 : j = 0 <;> simp [h1, h2, Nat.add_assoc]
namespace Kd
section
variable {α : Type} {k : Kd α} {w : World} {A : Option Addr} {xs : List α} {m c : Nat}
end
end Kd
section
variable {P : Program}
end
theorem ReadsInt.nil (W : World) (k : IntKind) : ReadsInt W k none ([] : List Int).length [] := ⟨rfl, by simp, fun h => absurd h (Nat.lt_irrefl 0)⟩
theorem ReadsInt.drewN {W : World} {k : IntKind} {A : Option Addr} {n : Nat} {xs : List Int} (h : ReadsInt W k A n xs) (m : Nat) : ReadsInt (W.drewN m) k A n xs := h
theorem keep_cell {w W : World} {g : Nat} (h : KeepBut w W g none) {a : Addr} {v : Value} (hc : w.cell? a = some v) (hne : a.block ≠ g) : W.cell? a = some v := by
 have := h.2 a.block (World.block_lt_of_cell? w a hc) hne (by simp)
 simpa [World.cell?, this] using hc
theorem add_block (a : Addr) (i : Nat) : (a.add i).block = a.block := by unfold Addr.add; split <;> rfl
theorem ReadsOf.nil {α : Type} (enc : α → Value) (d : α) (W : World) : ReadsOf enc d W none ([] : List α).length [] := ⟨rfl, by simp, fun h => absurd h (Nat.lt_irrefl 0)⟩
theorem ReadsOf.drewN {α : Type} {enc : α → Value} {d : α} {W : World} {A : Option Addr} {n : Nat} {xs : List α} (h : ReadsOf enc d W A n xs) (m : Nat) : ReadsOf enc d (W.drewN m) A n xs := h
theorem ReadsInt.keep {w W : World} {k : IntKind} {A : Option Addr} {n g : Nat} {xs : List Int} (h : ReadsInt w k A n xs) (hk : KeepBut w W g none) (hf : ∀ ad, A = some ad → 0 < n → ad.block ≠ g) : ReadsInt W k A n xs :=
 ⟨h.1, h.2.1, fun hn => by
  obtain ⟨ad, e, hc⟩ := h.2.2 hn
  exact ⟨ad, e, fun j hj => keep_cell hk (hc j hj) (by rw [add_block]; exact hf ad e hn)⟩⟩
theorem ReadsOf.keep {α : Type} {enc : α → Value} {d : α} {w W : World} {A : Option Addr} {n g : Nat} {xs : List α} (h : ReadsOf enc d w A n xs) (hk : KeepBut w W g none) (hf : ∀ ad, A = some ad → 0 < n → ad.block ≠ g) : ReadsOf enc d W A n xs :=
 ⟨h.1, h.2.1, fun hn => by
  obtain ⟨ad, e, hc⟩ := h.2.2 hn
  exact ⟨ad, e, fun j hj => keep_cell hk (hc j hj) (by rw [add_block]; exact hf ad e hn)⟩⟩
namespace Kd
section
variable {α β : Type} {d : Kd α} {d' : Kd β} {e e' base base' n : Nat} {ok ok' : Nat → Prop} {w W w1 W1 : World} {v u : Value} {xs : List α} {ys : List β} {A : Option Addr} {c : Nat}
end
section
variable {α : Type} {enc : α → Value} {h1 : ∀ x, (enc x).oneCell' = true} {w W : World} {A : Option Addr} {n g : Nat} {xs : List α}
end
end Kd
namespace Kd
section
variable {α : Type} {d : Kd α} {e base g : Nat} {ok : Nat → Prop} {w w1 : World} {v : Value} {xs : List α} {o : Obj}
end
end Kd
section
variable {P : Program} {ops : Array Oper} {rest : List Oper} {o : Oper} {a : Act} {Q : Exit → Act → World → Prop}
end
namespace Kd
section
variable {α : Type} {enc : α → Value} {h1 : ∀ x, (enc x).oneCell' = true} {e base g n cap : Nat} {ok : Nat → Prop} {W : World} {xs : List α}
end
end Kd
section
variable {P : Program} {ops : Array Oper} {rest : List Oper} {o : Oper} {a : Act} {Q : Exit → Act → World → Prop}
end
namespace Kd
section
variable {α : Type} {enc : α → Value} {h1 : ∀ x, (enc x).oneCell' = true} {e base g n cap : Nat} {ok : Nat → Prop} {W : World} {xs : List α}
end
end Kd
section
variable {P : Program} {ops : Array Oper} {rest : List Oper} {o : Oper} {a : Act} {Q : Exit → Act → World → Prop} {W : World}
end
section
variable {P : Program} {ops : Array Oper} {o : Oper} {a : Act} {Q : Exit → Act → World → Prop} {Kc : Act → World → Prop}
namespace Kd
variable {α : Type}
end Kd
end
section
variable {P : Program} {tmps : Array Value} {w : World}
end
namespace Kd
section
variable {P : Program} {α : Type}
end
section
variable {P : Program} {ops : Array Oper} {rest : List Oper} {o : Oper} {a : Act} {Q : Exit → Act → World → Prop} {Kc : Act → World → Prop} {α : Type}
end
end Kd

end Go.Proofs.YtgbialeahdoelaaW.PrintWords

end

section
namespace Go.Proofs.Ytgbialeahdoelaa.Base
open Go.RowKit Go.Proofs.YtgbialeahdoelaaW.PrintWords

def Evt {α : Type} (g : Nat → Option α) (r : α) : Prop := ∃ K, ∀ k, K ≤ k → g k = some r
theorem Evt.const {α : Type} (r : α) : Evt (fun _ => some r) r := ⟨0, fun _ _ => rfl⟩
theorem Evt.of {α : Type} {x : Option α} {r : α} (h : x = some r) : Evt (fun _ => x) r := ⟨0, fun _ _ => h⟩
theorem Evt.bind {α β : Type} {g : Nat → Option α} {f : Nat → α → Option β} {a : α} {r : β} (h : Evt g a) (k : Evt (fun n => f n a) r) : Evt (fun n => (g n).bind (f n)) r := by
 obtain ⟨K, h⟩ := h
 obtain ⟨L, k⟩ := k
 refine ⟨max K L, fun n hn => ?_⟩
 have h1 := h n (by omega)
 have h2 := k n (by omega)
 simp only [h1, Option.bind_some, h2]
theorem Evt.succ {α : Type} {g : Nat → Option α} {r : α} (h : Evt (fun k => g (k + 1)) r) : Evt g r := by
 obtain ⟨K, h⟩ := h
 refine ⟨K + 1, fun k hk => ?_⟩
 obtain ⟨m, rfl⟩ : ∃ m, k = m + 1 := ⟨k - 1, by omega⟩
 exact h m (by omega)
theorem Evt.congr {α : Type} {g g' : Nat → Option α} {r : α} (h : Evt g' r) (e : ∀ k, g k = g' k) : Evt g r := by
 obtain ⟨K, h⟩ := h
 exact ⟨K, fun k hk => (e k).trans (h k hk)⟩
theorem Evt.pos {α : Type} {c : Prop} [Decidable c] {g f : Nat → Option α} {r : α} (hc : c) (h : Evt g r) : Evt (fun k => if c then g k else f k) r := by
 simp only [if_pos hc]
 exact h
theorem Evt.neg {α : Type} {c : Prop} [Decidable c] {g f : Nat → Option α} {r : α} (hc : ¬ c) (h : Evt f r) : Evt (fun k => if c then g k else f k) r := by
 simp only [if_neg hc]
 exact h
def Bytes (l : List Int) : Prop := ∀ x ∈ l, 0 ≤ x ∧ x < 256
theorem Bytes.nil : Bytes [] := fun _ h => by simp at h
theorem Bytes.append {a b : List Int} (ha : Bytes a) (hb : Bytes b) : Bytes (a ++ b) := fun x hx => by
 rcases List.mem_append.1 hx with h | h
 ·exact ha x h
 ·exact hb x h
theorem Bytes.cons {a : Int} {b : List Int} (ha : 0 ≤ a ∧ a < 256) (hb : Bytes b) : Bytes (a :: b) := fun x hx => by
 rcases List.mem_cons.1 hx with h | h
 ·subst h; exact ha
 ·exact hb x h
theorem Bytes.head {a : Int} {b : List Int} (h : Bytes (a :: b)) : 0 ≤ a ∧ a < 256 := h a (by simp)
theorem Bytes.tail {a : Int} {b : List Int} (h : Bytes (a :: b)) : Bytes b := fun x hx => h x (by simp [hx])
theorem Bytes.right {a b : List Int} (h : Bytes (a ++ b)) : Bytes b := fun x hx => h x (by simp [hx])
theorem Bytes.drop {l : List Int} (h : Bytes l) (n : Nat) : Bytes (l.drop n) := fun x hx => h x (List.mem_of_mem_drop hx)
theorem Bytes.take {l : List Int} (h : Bytes l) (n : Nat) : Bytes (l.take n) := fun x hx => h x (List.mem_of_mem_take hx)
theorem str_size (xs : List Int) : (strOfNums xs).size = xs.length := by
 simp [strOfNums, ByteArray.size]
end Go.Proofs.Ytgbialeahdoelaa.Base

end

section
namespace Go.Proofs.Ytgbialeahdoelaa.Utf
open Go.RowKit Go.Proofs.YtgbialeahdoelaaW.PrintWords Go.Proofs.Ytgbialeahdoelaa.Base

def isCp (r : Int) : Prop := 0 ≤ r ∧ r ≤ 1114111 ∧ (r < 55296 ∨ 57343 < r)
instance (r : Int) : Decidable (isCp r) := by unfold isCp; infer_instance
def enc (r : Int) : List Int :=
 if r < 128 then [r]
 else if r < 2048 then [192 + r / 64, 128 + r % 64]
 else if r < 65536 then [224 + r / 4096, 128 + r / 64 % 64, 128 + r % 64]
 else [240 + r / 262144, 128 + r / 4096 % 64, 128 + r / 64 % 64, 128 + r % 64]
def fix (r : Int) : Int := if isCp r then r else 65533
def put (r : Int) : List Int := enc (fix r)
def size (r : Int) : Int := if r < 128 then 1 else if r < 2048 then 2 else if r < 65536 then 3 else 4
def cont (c : Int) : Prop := 128 ≤ c ∧ c < 192
instance (c : Int) : Decidable (cont c) := by unfold cont; infer_instance
def bad : Int × Int × Bool := (65533, 1, false)
def fin (r n : Int) : Int × Int × Bool := if isCp r ∧ size r = n then (r, n, true) else bad
def dec : List Int → Int × Int × Bool
 | [] => (0, 0, false)
 | c :: t =>
  if c < 128 then (c, 1, true)
  else if 194 ≤ c ∧ c < 224 then
   match t with
   | d :: _ => if cont d then fin ((c - 192) * 64 + (d - 128)) 2 else bad
   | [] => bad
  else if 224 ≤ c ∧ c < 240 then
   match t with
   | d :: e :: _ => if cont d ∧ cont e then fin ((c - 224) * 4096 + (d - 128) * 64 + (e - 128)) 3 else bad
   | _ => bad
  else if 240 ≤ c ∧ c < 245 then
   match t with
   | d :: e :: f :: _ => if cont d ∧ cont e ∧ cont f then fin ((c - 240) * 262144 + (d - 128) * 4096 + (e - 128) * 64 + (f - 128)) 4 else bad
   | _ => bad
  else bad
def nx (l : List Int) (i : Int) : Int × Int × Bool := if i < 0 ∨ (l.length : Int) ≤ i then (0, 0, false) else dec (l.drop i.toNat)

theorem fix_of {r : Int} (h : isCp r) : fix r = r := if_pos h
theorem enc_size {r : Int} : ((enc r).length : Int) = size r := by
 unfold enc size
 (repeat' split) <;> simp
theorem enc_bytes {r : Int} (h : isCp r) : Bytes (enc r) := by
 unfold isCp at h
 unfold enc
 (repeat' split) <;> (intro x hx; simp only [List.mem_cons, List.not_mem_nil, or_false] at hx)
 ·omega
 ·rcases hx with rfl | rfl <;> omega
 ·rcases hx with rfl | rfl | rfl <;> omega
 ·rcases hx with rfl | rfl | rfl | rfl <;> omega
theorem put_size (r : Int) : ((put r).length : Int) = size (fix r) := enc_size
theorem size_range (r : Int) : 1 ≤ size r ∧ size r ≤ 4 := by
 unfold size
 (repeat' split) <;> omega
theorem put_length (r : Int) : 1 ≤ (put r).length ∧ (put r).length ≤ 4 := by
 have := put_size r
 have := size_range (fix r)
 omega
theorem dec_enc {r : Int} (h : isCp r) (t : List Int) : dec (enc r ++ t) = (r, size r, true) := by
 have h' := h
 unfold isCp at h'
 unfold enc size
 split
 ·simp [dec, *]
 ·split
  ·have e1 : ¬ (192 + r / 64 < 128) := by omega
   have e2 : 194 ≤ 192 + r / 64 ∧ 192 + r / 64 < 224 := by omega
   have e3 : cont (128 + r % 64) := by unfold cont; omega
   have e4 : (192 + r / 64 - 192) * 64 + (128 + r % 64 - 128) = r := by omega
   simp only [List.cons_append, List.nil_append, dec, if_neg e1, if_pos e2, if_pos e3, e4]
   unfold fin
   rw [if_pos ⟨h, by unfold size; rw [if_neg (by omega), if_pos (by omega)]⟩]
  ·split
   ·have e1 : ¬ (224 + r / 4096 < 128) := by omega
    have e2 : ¬ (194 ≤ 224 + r / 4096 ∧ 224 + r / 4096 < 224) := by omega
    have e3 : 224 ≤ 224 + r / 4096 ∧ 224 + r / 4096 < 240 := by omega
    have e5 : cont (128 + r / 64 % 64) ∧ cont (128 + r % 64) := by unfold cont; omega
    have e4 : (224 + r / 4096 - 224) * 4096 + (128 + r / 64 % 64 - 128) * 64 + (128 + r % 64 - 128) = r := by omega
    simp only [List.cons_append, List.nil_append, dec, if_neg e1, if_neg e2, if_pos e3, if_pos e5, e4]
    unfold fin
    rw [if_pos ⟨h, by unfold size; rw [if_neg (by omega), if_neg (by omega), if_pos (by omega)]⟩]
   ·have e1 : ¬ (240 + r / 262144 < 128) := by omega
    have e2 : ¬ (194 ≤ 240 + r / 262144 ∧ 240 + r / 262144 < 224) := by omega
    have e3 : ¬ (224 ≤ 240 + r / 262144 ∧ 240 + r / 262144 < 240) := by omega
    have e6 : 240 ≤ 240 + r / 262144 ∧ 240 + r / 262144 < 245 := by omega
    have e5 : cont (128 + r / 4096 % 64) ∧ cont (128 + r / 64 % 64) ∧ cont (128 + r % 64) := by unfold cont; omega
    have e4 : (240 + r / 262144 - 240) * 262144 + (128 + r / 4096 % 64 - 128) * 4096 + (128 + r / 64 % 64 - 128) * 64 + (128 + r % 64 - 128) = r := by omega
    simp only [List.cons_append, List.nil_append, dec, if_neg e1, if_neg e2, if_neg e3, if_pos e6, if_pos e5, e4]
    unfold fin
    rw [if_pos ⟨h, by unfold size; rw [if_neg (by omega), if_neg (by omega), if_neg (by omega)]⟩]
theorem enc_dec {l : List Int} (hb : Bytes l) {r n : Int} (h : dec l = (r, n, true)) : isCp r ∧ n = size r ∧ ∃ t, l = enc r ++ t := by
 match l with
 | [] => simp [dec] at h
 | c :: t =>
  have hc := hb.head
  simp only [dec] at h
  split at h
  ·simp only [Prod.mk.injEq] at h
   obtain ⟨rfl, rfl, _⟩ := h
   refine ⟨⟨by omega, by omega, by omega⟩, by simp [size, *], t, by simp [enc, *]⟩
  ·split at h
   ·match t with
    | [] => simp [bad] at h
    | d :: t =>
     simp only at h
     split at h
     ·rename_i hd
      unfold cont at hd
      unfold fin at h
      split at h
      ·rename_i hr
       simp only [Prod.mk.injEq] at h
       obtain ⟨rfl, rfl, _⟩ := h
       refine ⟨hr.1, hr.2.symm, t, ?_⟩
       unfold enc
       rw [if_neg (by omega), if_pos (by omega)]
       simp only [List.cons_append, List.nil_append, List.cons.injEq, and_true]
       omega
      ·simp [bad] at h
     ·simp [bad] at h
   ·split at h
    ·match t with
     | [] => simp [bad] at h
     | [_] => simp [bad] at h
     | d :: e :: t =>
      simp only at h
      split at h
      ·rename_i hd
       unfold cont at hd
       unfold fin at h
       split at h
       ·rename_i hr
        simp only [Prod.mk.injEq] at h
        obtain ⟨rfl, rfl, _⟩ := h
        refine ⟨hr.1, hr.2.symm, t, ?_⟩
        have hs := hr.2
        unfold size at hs
        unfold enc
        split at hs
        ·omega
        ·split at hs
         ·omega
         ·split at hs
          ·rw [if_neg (by omega), if_neg (by omega), if_pos (by omega)]
           simp only [List.cons_append, List.nil_append, List.cons.injEq, and_true]
           omega
          ·omega
       ·simp [bad] at h
      ·simp [bad] at h
    ·split at h
     ·match t with
      | [] => simp [bad] at h
      | [_] => simp [bad] at h
      | [_, _] => simp [bad] at h
      | d :: e :: f :: t =>
       simp only at h
       split at h
       ·rename_i hd
        unfold cont at hd
        unfold fin at h
        split at h
        ·rename_i hr
         simp only [Prod.mk.injEq] at h
         obtain ⟨rfl, rfl, _⟩ := h
         refine ⟨hr.1, hr.2.symm, t, ?_⟩
         have hs := hr.2
         unfold size at hs
         unfold enc
         split at hs
         ·omega
         ·split at hs
          ·omega
          ·split at hs
           ·omega
           ·rw [if_neg (by omega), if_neg (by omega), if_neg (by omega)]
            simp only [List.cons_append, List.nil_append, List.cons.injEq, and_true]
            omega
        ·simp [bad] at h
       ·simp [bad] at h
     ·simp [bad] at h
theorem dec_len {l : List Int} (hb : Bytes l) (h : l ≠ []) : 1 ≤ (dec l).2.1 ∧ (dec l).2.1 ≤ (l.length : Int) ∧ (dec l).2.1 ≤ 4 := by
 rcases hd : dec l with ⟨r, n, ok⟩
 cases ok with
 | true =>
  obtain ⟨hr, rfl, t, rfl⟩ := enc_dec hb hd
  have := size_range r
  have := @enc_size r
  simp only [List.length_append]
  omega
 | false =>
  have : n = 1 := by
   match l with
   | [] => exact absurd rfl h
   | c :: t =>
    simp only [dec] at hd
    unfold fin bad at hd
    repeat' split at hd
    all_goals simp_all
  subst this
  cases l with
  | nil => exact absurd rfl h
  | cons c t => simp only [List.length_cons]; omega
theorem dec_false {l : List Int} (h : l ≠ []) (hd : (dec l).2.2 = false) : dec l = bad := by
 match l with
 | [] => exact absurd rfl h
 | c :: t =>
  have key : ∀ x, dec (c :: t) = x → x.2.2 = false → x = bad := by
   intro x hx hf
   simp only [dec, fin] at hx
   repeat' split at hx
   all_goals (subst hx; first | rfl | (simp at hf))
  exact key _ rfl hd
def encAll (l : List Int) : List Int := l.flatMap enc
theorem encAll_nil : encAll [] = [] := rfl
theorem encAll_cons (r : Int) (l : List Int) : encAll (r :: l) = enc r ++ encAll l := rfl
theorem encAll_append (a b : List Int) : encAll (a ++ b) = encAll a ++ encAll b := by simp [encAll]
theorem parts (l : List Int) (hb : Bytes l) : ∃ rs t, l = encAll rs ++ t ∧ (∀ r ∈ rs, isCp r) ∧ (dec t).2.2 = false := by
 have key : ∀ n : Nat, ∀ l : List Int, l.length ≤ n → Bytes l → ∃ rs t, l = encAll rs ++ t ∧ (∀ r ∈ rs, isCp r) ∧ (dec t).2.2 = false := by
  intro n
  induction n with
  | zero =>
   intro l hn hb
   have : l = [] := List.length_eq_zero_iff.1 (by omega)
   subst this
   exact ⟨[], [], rfl, fun _ h => by simp at h, rfl⟩
  | succ n ih =>
   intro l hn hb
   rcases hd : dec l with ⟨r, m, ok⟩
   cases ok with
   | false => exact ⟨[], l, rfl, fun _ h => by simp at h, by rw [hd]⟩
   | true =>
    obtain ⟨hr, rfl, t, rfl⟩ := enc_dec hb hd
    have h1 := @enc_size r
    have h2 := size_range r
    obtain ⟨rs, u, rfl, hrs, hu⟩ := ih t (by simp only [List.length_append] at hn; omega) hb.right
    refine ⟨r :: rs, u, by rw [encAll_cons, List.append_assoc], ?_, hu⟩
    intro x hx
    rcases List.mem_cons.1 hx with rfl | h
    ·exact hr
    ·exact hrs x h
 exact key l.length l (Nat.le_refl _) hb

theorem encAll_bytes {rs : List Int} (h : ∀ r ∈ rs, isCp r) : Bytes (encAll rs) := by
 induction rs with
 | nil => exact Bytes.nil
 | cons r rs ih =>
  rw [encAll_cons]
  exact (enc_bytes (h r (by simp))).append (ih fun x hx => h x (by simp [hx]))
end Go.Proofs.Ytgbialeahdoelaa.Utf

end
