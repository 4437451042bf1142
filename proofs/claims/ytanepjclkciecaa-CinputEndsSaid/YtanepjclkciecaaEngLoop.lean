/- A loop on the small machine: its head is a family of states; to come back to the head is a comparison that simp computes. -/
import Derived.Test.YtanepjclkciecaaEngEv
namespace Go.Proofs.Ytanepjclkciecaa.Eng
open Go
/-- The one known value is good for the other. -/
def mtE (ρ : Nat → Nat) (born : List Nat) (c' c : AV) : Prop := Mt ρ born c' c ∧ c ≠ .bad
def slR (ρ : Nat → Nat) (born : List Nat) (sl : List (Nat × AV)) : List (Nat × AV) → Prop
  | [] => True
  | p :: l => mtE ρ born (lk sl (.tmp p.1)) p.2 ∧ slR ρ born sl l
def hpR (ρ : Nat → Nat) (born : List Nat) (hp : Hp) : Hp → Prop
  | [] => True
  | (o, some obj) :: l => (if o ∈ born then (match obj with | .row _ _ xs => xs = [] | _ => False) else (match hp.get (ρ o) with | some obj' => MtO ρ born obj' obj | none => False)) ∧ hpR ρ born hp l
  | (_, none) :: l => hpR ρ born hp l
def idsR (u : List Nat) : List (Nat × AV) → Prop
  | [] => True
  | p :: l => subL p.2.ids u = true ∧ idsR u l
theorem slR_all {ρ : Nat → Nat} {born : List Nat} {sl : List (Nat × AV)} : ∀ {l : List (Nat × AV)}, slR ρ born sl l → ∀ p ∈ l, ∃ c', sl.lookup p.1 = some c' ∧ Mt ρ born c' p.2
  | q :: l, h, p, hp => by
    rcases List.mem_cons.mp hp with rfl | hp
    · obtain ⟨⟨h1, h2⟩, -⟩ := h
      simp only [lk] at h1
      cases e : sl.lookup p.1 with
      | some c' => rw [e] at h1; exact ⟨c', rfl, h1⟩
      | none =>
        rw [e] at h1
        exfalso
        revert h1 h2
        cases p.2 <;> simp [Mt]
    · exact slR_all h.2 p hp
theorem hpR_all {ρ : Nat → Nat} {born : List Nat} {hp : Hp} : ∀ {l : Hp}, hpR ρ born hp l → ∀ p ∈ l, match p.2 with
    | some obj => if p.1 ∈ born then (match obj with | .row _ _ xs => xs = [] | _ => False) else ∃ obj', hp.get (ρ p.1) = some obj' ∧ MtO ρ born obj' obj
    | none => True
  | (o, some obj) :: l, h, p, hm => by
    rcases List.mem_cons.mp hm with rfl | hm
    · have h1 := h.1
      dsimp only at h1 ⊢
      split
      · rw [if_pos ‹_›] at h1; exact h1
      · rw [if_neg ‹_›] at h1
        cases e : hp.get (ρ o) with
        | some obj' => rw [e] at h1; exact ⟨obj', rfl, h1⟩
        | none => rw [e] at h1; exact h1.elim
    · exact hpR_all h.2 p hm
  | (o, none) :: l, h, p, hm => by
    rcases List.mem_cons.mp hm with rfl | hm
    · trivial
    · exact hpR_all (l := l) h p hm
theorem idsR_all {u : List Nat} : ∀ {l : List (Nat × AV)}, idsR u l → (l.all fun p => subL p.2.ids u) = true
  | [], _ => rfl
  | p :: l, h => by simp only [List.all_cons, Bool.and_eq_true]; exact ⟨h.1, idsR_all h.2⟩
theorem Le.of {n : Nat} {u u2 : List Nat} {sl sl2 : List (Nat × AV)} {hp hp2 : Hp} (ρ : Nat → Nat) (born : List Nat)
    (h : slR ρ born sl sl2 ∧ hpR ρ born hp hp2 ∧ distinct ρ born (liveIds hp2) ∧ idsR u2 sl2 ∧ subL (upIds hp2) u2 = true) : Le ⟨n, u, sl, hp⟩ ⟨n, u2, sl2, hp2⟩ :=
  ⟨ρ, born, rfl, slR_all h.1, hpR_all h.2.1, h.2.2.1, idsR_all h.2.2.2.1, h.2.2.2.2⟩
theorem wpc_loop {P : Program} {Γ : Gam} {D : Array Oper → St → (St → Prop) → Prop} {x : Code} {Q : Exit → St → Prop} {s : St} {α : Type} (S : α → St) (I : α → Prop) (μ : α → Nat) (a0 : α) (h0 : I a0) (hle : Le s (S a0))
    (hs : ∀ a, I a → wpc P Γ D x (thenS (fun s' => ∃ b, μ b < μ a ∧ I b ∧ Le s' (S b)) Q) (S a)) : wpc P Γ D (.loop x) Q s := by
  refine ⟨fun n s2 => ∃ a, I a ∧ n = μ a ∧ s2 = S a, ⟨_, _, hle, a0, h0, rfl, rfl⟩, ?_⟩
  rintro n s2 ⟨a, ha, rfl, rfl⟩
  have e : (fun s' => ∃ n' s2, n' < μ a ∧ Le s' s2 ∧ ∃ b, I b ∧ n' = μ b ∧ s2 = S b) = fun s' => ∃ b, μ b < μ a ∧ I b ∧ Le s' (S b) := by
    funext s'
    apply propext
    constructor
    · rintro ⟨n', s2, h1, h2, b, h3, rfl, rfl⟩; exact ⟨b, h1, h3, h2⟩
    · rintro ⟨b, h1, h3, h2⟩; exact ⟨_, _, h1, h2, b, h3, rfl, rfl⟩
  rw [e]
  exact hs a ha
section
variable {ρ : Nat → Nat} {born : List Nat}
theorem slR_nil (sl : List (Nat × AV)) : slR ρ born sl [] = True := rfl
theorem slR_cons (sl : List (Nat × AV)) (d : Nat) (c : AV) (l : List (Nat × AV)) : slR ρ born sl ((d, c) :: l) = (mtE ρ born (lk sl (.tmp d)) c ∧ slR ρ born sl l) := rfl
theorem hpR_nil (hp : Hp) : hpR ρ born hp [] = True := rfl
theorem hpR_cells (hp : Hp) (o : Nat) (cs : List AV) (l : Hp) : hpR ρ born hp ((o, some (.cells cs)) :: l) = ((if o ∈ born then False else (match hp.get (ρ o) with | some obj' => MtO ρ born obj' (.cells cs) | none => False)) ∧ hpR ρ born hp l) := rfl
theorem hpR_row (hp : Hp) (o e s : Nat) (xs : List (List Dat)) (l : Hp) : hpR ρ born hp ((o, some (.row e s xs)) :: l) = ((if o ∈ born then xs = [] else (match hp.get (ρ o) with | some obj' => MtO ρ born obj' (.row e s xs) | none => False)) ∧ hpR ρ born hp l) := rfl
theorem idsR_nil (u : List Nat) : idsR u [] = True := rfl
theorem idsR_cons (u : List Nat) (d : Nat) (c : AV) (l : List (Nat × AV)) : idsR u ((d, c) :: l) = (subL c.ids u = true ∧ idsR u l) := rfl
theorem mtE_v (x' x : Value) : mtE ρ born (.d (.v x')) (.d (.v x)) = (x' = x) := by simp [mtE, Mt]
theorem mtE_sl (s' s : Nat) (x' x : List (List Dat)) : mtE ρ born (.d (.sl s' x')) (.d (.sl s x)) = (s' = s ∧ x' = x) := by simp [mtE, Mt]
theorem mtE_nil (s : Nat) (x : List (List Dat)) : mtE ρ born (.d (.v (.slice none 0 0))) (.d (.sl s x)) = (x = []) := by simp [mtE, Mt]
theorem mtE_refl (x : Dat) : mtE ρ born (.d x) (.d x) = True := by simp [mtE, Mt]
theorem mtE_row (o' n' o n : Nat) : mtE ρ born (.row o' n') (.row o n) = (o ∉ born ∧ o' = ρ o ∧ n' = n) := by simp [mtE, Mt]
theorem mtE_born (x : Dat) (o n : Nat) : mtE ρ born (.d x) (.row o n) = (x = .v (.slice none 0 0) ∧ o ∈ born ∧ n = 0) := by simp [mtE, Mt]
theorem mtE_ptr (o' f' o f : Nat) : mtE ρ born (.ptr o' f') (.ptr o f) = (o ∉ born ∧ o' = ρ o ∧ f' = f) := by simp [mtE, Mt]
theorem mtE_rp (o' s' i' f' o s i f : Nat) : mtE ρ born (.rp o' s' i' f') (.rp o s i f) = (o ∉ born ∧ o' = ρ o ∧ s' = s ∧ i' = i ∧ f' = f) := by simp [mtE, Mt]
theorem mtE_agg (l' l : List AV) : mtE ρ born (.agg l') (.agg l) = Mt.MtL ρ born l' l := by simp [mtE, Mt]
theorem mtE_tup (l' l : List AV) : mtE ρ born (.tup l') (.tup l) = Mt.MtL ρ born l' l := by simp [mtE, Mt]
theorem mtE_fn (g' g : Nat) (l' l : List AV) : mtE ρ born (.fn g' l') (.fn g l) = (g' = g ∧ Mt.MtL ρ born l' l) := by simp [mtE, Mt]
theorem mtE_ep (c' c : List Dat) (f' f : Nat) : mtE ρ born (.ep c' f') (.ep c f) = (c' = c ∧ f' = f) := by simp [mtE, Mt]
theorem MtL_nil : Mt.MtL ρ born [] [] = True := rfl
theorem MtL_cons (c' c : AV) (l' l : List AV) : Mt.MtL ρ born (c' :: l') (c :: l) = (Mt ρ born c' c ∧ Mt.MtL ρ born l' l) := rfl
theorem Mt_v (x' x : Value) : Mt ρ born (.d (.v x')) (.d (.v x)) = (x' = x) := by simp [Mt]
theorem Mt_sl (s' s : Nat) (x' x : List (List Dat)) : Mt ρ born (.d (.sl s' x')) (.d (.sl s x)) = (s' = s ∧ x' = x) := by simp [Mt]
theorem Mt_nil (s : Nat) (x : List (List Dat)) : Mt ρ born (.d (.v (.slice none 0 0))) (.d (.sl s x)) = (x = []) := by simp [Mt]
theorem Mt_refl (x : Dat) : Mt ρ born (.d x) (.d x) = True := by simp [Mt]
theorem Mt_row (o' n' o n : Nat) : Mt ρ born (.row o' n') (.row o n) = (o ∉ born ∧ o' = ρ o ∧ n' = n) := rfl
theorem Mt_born (x : Dat) (o n : Nat) : Mt ρ born (.d x) (.row o n) = (x = .v (.slice none 0 0) ∧ o ∈ born ∧ n = 0) := rfl
theorem Mt_ptr (o' f' o f : Nat) : Mt ρ born (.ptr o' f') (.ptr o f) = (o ∉ born ∧ o' = ρ o ∧ f' = f) := rfl
theorem MtO_cells (l' l : List AV) : MtO ρ born (.cells l') (.cells l) = (Mt.MtL ρ born l' l ∧ allCell l = true) := rfl
theorem MtO_row (e' s' e s : Nat) (xs' xs : List (List Dat)) : MtO ρ born (.row e' s' xs') (.row e s xs) = (e' = e ∧ s' = s ∧ xs' = xs) := rfl
end
/-- Arguments: a nil slice counts as an empty one. -/
inductive NT where
  | k
  | s (sz : Nat)
  | a (l : List NT)
def NT.nz : NT → AV → AV
  | .s sz, .d (.v (.slice none 0 0)) => .d (.sl sz [])
  | .a l, .agg cs => .agg (nzL l cs)
  | _, c => c
where nzL : List NT → List AV → List AV
  | t :: l, c :: cs => t.nz c :: nzL l cs
  | _, cs => cs
theorem nzL_length : ∀ (T : List NT) (l : List AV), (NT.nz.nzL T l).length = l.length
  | [], [] => rfl
  | [], _ :: _ => rfl
  | _ :: _, [] => rfl
  | _ :: T, _ :: l => by simp [NT.nz.nzL, nzL_length T l]
mutual
theorem Val.nz {w : World} {im1 : Nat → Prop} {m : Nat → Value} : ∀ (t : NT) {u : Value} {c : AV}, Val w im1 m u c → Val w im1 m u (t.nz c)
  | .k, u, c, h => h
  | .s sz, u, c, h => by
    unfold NT.nz
    split
    · rename_i e
      cases h with
      | d r => cases r; injection e with e; subst e; exact .d (.nil _)
    · rename_i e; cases e
    · exact h
  | .a l, u, c, h => by
    unfold NT.nz
    split
    · rename_i e; cases e
    · rename_i e
      injection e with e; subst e
      cases h with
      | agg hn hv => exact .agg (by rw [hn, nzL_length]) fun i u x h1 h2 => Val.nzL l _ (fun i u c h1 h2 => hv i u c h1 h2) i u x h1 h2
    · exact h
theorem Val.nzL {w : World} {im1 : Nat → Prop} {m : Nat → Value} : ∀ (T : List NT) (l : List AV) {vals : Array Value}, (∀ (i : Nat) (u : Value) (c : AV), vals[i]? = some u → l[i]? = some c → Val w im1 m u c) →
    ∀ (i : Nat) (u : Value) (c : AV), vals[i]? = some u → (NT.nz.nzL T l)[i]? = some c → Val w im1 m u c
  | [], [], _, _, i, u, c, _, h => by cases h
  | [], _ :: _, _, hv, i, u, c, h1, h2 => hv i u c h1 h2
  | _ :: _, [], _, _, i, u, c, _, h => by cases h
  | t :: T, x :: l, vals, hv, i, u, c, h1, h2 => by
    cases i with
    | zero => cases h2; exact Val.nz t (hv 0 u x h1 rfl)
    | succ i =>
      have hs : ∀ (i : Nat) (u : Value) (c : AV), (vals.extract 1 vals.size)[i]? = some u → l[i]? = some c → Val w im1 m u c := fun i u c e1 e2 => by
        rw [Array.getElem?_extract] at e1
        split at e1
        · exact hv (1 + i) u c e1 (by rw [Nat.add_comm]; exact e2)
        · cases e1
      refine Val.nzL T l hs i u c ?_ h2
      rw [Array.getElem?_extract]
      have : i + 1 < vals.size := by
        rcases Nat.lt_or_ge (i + 1) vals.size with h | h
        · exact h
        · rw [Array.getElem?_eq_none h] at h1; cases h1
      rw [if_pos (by omega), Nat.add_comm 1 i]; exact h1
end
mutual
theorem nz_ids : ∀ (t : NT) (c : AV), c.ids = [] → (t.nz c).ids = []
  | .k, c, h => h
  | .s sz, c, h => by
    unfold NT.nz
    split
    · rfl
    · rename_i e; cases e
    · exact h
  | .a l, c, h => by
    unfold NT.nz
    split
    · rfl
    · rename_i e; injection e with e; subst e; exact nzL_ids l _ h
    · exact h
theorem nzL_ids : ∀ (T : List NT) (l : List AV), AV.ids.idsL l = [] → AV.ids.idsL (NT.nz.nzL T l) = []
  | [], [], h => h
  | [], _ :: _, h => h
  | _ :: _, [], h => h
  | t :: T, x :: l, h => by
    simp only [AV.ids.idsL, List.append_eq_nil_iff, NT.nz.nzL] at h ⊢
    exact ⟨nz_ids t x h.1, nzL_ids T l h.2⟩
end
theorem Calm.nz {P : Program} {g : Nat} {T : List NT} {args : List AV} {res : AV} (h : Calm P g (NT.nz.nzL T args) res) : Calm P g args res :=
  ⟨h.1, h.2.1, fun C m w hp vals I hs hv => h.2.2 C m w hp vals I (by rw [hs, nzL_length]) fun i u c h1 h2 => Val.nzL T args hv i u c h1 h2⟩
theorem Known.addN {P : Program} {Γ : Gam} (hm : P.follows .mixedOrders = true) (K : Known P Γ) {g0 : Nat} (T : List NT) {F : List AV → Option (Prop × AV)}
    (hF : ∀ args sc res, F args = some (sc, res) → sc → AV.ids.idsL args = [] → res.ids = [] ∧ Body P Γ (DRun P Γ) g0 args res) : Known P (Γ.add g0 fun a => F (NT.nz.nzL T a)) :=
  ⟨K.ok.add fun args sc res h hs hi => let ⟨h1, h2⟩ := hF _ sc res h hs (nzL_ids T args hi); (Body.calm K.ok (Draws hm K.ok K.loc) (nzL_ids T args hi) h1 h2).nz, K.loc.add g0 _⟩
theorem Known.calm {P : Program} {Γ : Gam} (hm : P.follows .mixedOrders = true) (K : Known P Γ) {g : Nat} {args : List AV} {res : AV} (hi : AV.ids.idsL args = []) (hr : res.ids = []) (hb : Body P Γ (DRun P Γ) g args res) : Calm P g args res :=
  Body.calm K.ok (Draws hm K.ok K.loc) hi hr hb
theorem Known.addC {P : Program} {Γ : Gam} (K : Known P Γ) {g0 : Nat} (T : List NT) {F : List AV → Option (Prop × AV)}
    (hF : ∀ args sc res, F args = some (sc, res) → sc → Calm P g0 args res) : Known P (Γ.add g0 fun a => F (NT.nz.nzL T a)) :=
  ⟨K.ok.add fun args sc res h hs _ => (hF _ sc res h hs).nz, K.loc.add g0 _⟩
theorem nzL_nil (l : List AV) : NT.nz.nzL [] l = l := by cases l <;> rfl
theorem nzL_cons (t : NT) (T : List NT) (c : AV) (l : List AV) : NT.nz.nzL (t :: T) (c :: l) = t.nz c :: NT.nz.nzL T l := rfl
theorem nz_k (c : AV) : NT.k.nz c = c := by cases c <;> rfl
theorem nz_sl (z sz : Nat) (xs : List (List Dat)) : (NT.s z).nz (.d (.sl sz xs)) = .d (.sl sz xs) := rfl
theorem nz_nil (z : Nat) : (NT.s z).nz (.d (.v (.slice none 0 0))) = .d (.sl z []) := rfl
theorem nz_agg (T : List NT) (l : List AV) : (NT.a T).nz (.agg l) = .agg (NT.nz.nzL T l) := rfl
end Go.Proofs.Ytanepjclkciecaa.Eng
