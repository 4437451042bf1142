/- A loop on the small machine: its head is a family of states; to come back to the head is a comparison that simp computes. -/
import Derived.Test.YtlhhibhcoefolaaEngEv
namespace Go.Proofs.Ytlhhibhcoefolaa.Eng
open Go
set_option linter.unusedVariables false
set_option linter.unusedSimpArgs false
/-- The one known value is good for the other. -/
def mtE (ρ : Nat → Nat) (born : List Nat) (c' c : AV) : Prop := Mt ρ born c' c ∧ c ≠ .bad
def slR (ρ : Nat → Nat) (born : List Nat) (sl : List (Nat × AV)) : List (Nat × AV) → Prop
  | [] => True
  | p :: l => mtE ρ born (lk sl (.tmp p.1)) p.2 ∧ slR ρ born sl l
def hpR (ρ : Nat → Nat) (born : List Nat) (hp : Hp) : Hp → Prop
  | [] => True
  | (o, some obj) :: l => (if o ∈ born then (match obj with | .row _ _ xs => xs = [] | _ => False) else (match hp.get (ρ o) with | some obj' => MtO ρ born obj' obj | none => False)) ∧ hpR ρ born hp l
  | (_, none) :: l => hpR ρ born hp l
def idsR (u : List Nat) : List (Nat × AV) → Prop
  | [] => True
  | p :: l => subL p.2.ids u = true ∧ idsR u l
theorem slR_all {ρ : Nat → Nat} {born : List Nat} {sl : List (Nat × AV)} : ∀ {l : List (Nat × AV)}, slR ρ born sl l → ∀ p ∈ l, ∃ c', sl.lookup p.1 = some c' ∧ Mt ρ born c' p.2
  | q :: l, h, p, hp => by
    rcases List.mem_cons.mp hp with rfl | hp
    · obtain ⟨⟨h1, h2⟩, -⟩ := h
      simp only [lk] at h1
      cases e : sl.lookup p.1 with
      | some c' => rw [e] at h1; exact ⟨c', rfl, h1⟩
      | none =>
        rw [e] at h1
        exfalso
        revert h1 h2
        cases p.2 <;> simp [Mt]
    · exact slR_all h.2 p hp
theorem hpR_all {ρ : Nat → Nat} {born : List Nat} {hp : Hp} : ∀ {l : Hp}, hpR ρ born hp l → ∀ p ∈ l, match p.2 with
    | some obj => if p.1 ∈ born then (match obj with | .row _ _ xs => xs = [] | _ => False) else ∃ obj', hp.get (ρ p.1) = some obj' ∧ MtO ρ born obj' obj
    | none => True
  | (o, some obj) :: l, h, p, hm => by
    rcases List.mem_cons.mp hm with rfl | hm
    · have h1 := h.1
      dsimp only at h1 ⊢
      split
      · rw [if_pos ‹_›] at h1; exact h1
      · rw [if_neg ‹_›] at h1
        cases e : hp.get (ρ o) with
        | some obj' => rw [e] at h1; exact ⟨obj', rfl, h1⟩
        | none => rw [e] at h1; exact h1.elim
    · exact hpR_all h.2 p hm
  | (o, none) :: l, h, p, hm => by
    rcases List.mem_cons.mp hm with rfl | hm
    · trivial
    · exact hpR_all (l := l) h p hm
theorem idsR_all {u : List Nat} : ∀ {l : List (Nat × AV)}, idsR u l → (l.all fun p => subL p.2.ids u) = true
  | [], _ => rfl
  | p :: l, h => by simp only [List.all_cons, Bool.and_eq_true]; exact ⟨h.1, idsR_all h.2⟩
/-- Names from 10000 on are pinned: what is handed in and out. -/
def pr (ρ : Nat → Nat) (i : Nat) : Nat := if 10000 ≤ i then i else ρ i
theorem Le.of {n : Nat} {u u2 : List Nat} {sl sl2 : List (Nat × AV)} {hp hp2 : Hp} (ρ : Nat → Nat) (born : List Nat)
    (h : slR (pr ρ) born sl sl2 ∧ hpR (pr ρ) born hp hp2 ∧ distinct (pr ρ) born (liveIds hp2) ∧ idsR u2 sl2 ∧ subL (upIds hp2) u2 = true) (hb : (born.all fun i => Nat.blt i 10000) = true := by rfl) : Le ⟨n, u, sl, hp⟩ ⟨n, u2, sl2, hp2⟩ :=
  ⟨[], pr ρ, born, fun i hi => ⟨if_pos hi, fun h => Nat.lt_irrefl _ (Nat.lt_of_lt_of_le (by simpa using List.all_eq_true.1 hb i h) hi)⟩, by rw [St.frz_nil]; exact ⟨rfl, slR_all h.1, hpR_all h.2.1, h.2.2.1, idsR_all h.2.2.2.1, h.2.2.2.2⟩⟩
/-- The same, where own rows (fr) are let go for good. -/
theorem Le.ofz {n : Nat} {u u2 : List Nat} {sl sl2 : List (Nat × AV)} {hp hp2 : Hp} (fr : List Nat) (ρ : Nat → Nat) (born : List Nat)
    (h : slR (pr ρ) born (sl.map fun p => (p.1, frA hp.get fr p.2)) sl2 ∧ hpR (pr ρ) born (drops fr ++ hp) hp2 ∧ distinct (pr ρ) born (liveIds hp2) ∧ idsR u2 sl2 ∧ subL (upIds hp2) u2 = true) (hb : (born.all fun i => Nat.blt i 10000) = true := by rfl) : Le ⟨n, u, sl, hp⟩ ⟨n, u2, sl2, hp2⟩ :=
  ⟨fr, pr ρ, born, fun i hi => ⟨if_pos hi, fun h => Nat.lt_irrefl _ (Nat.lt_of_lt_of_le (by simpa using List.all_eq_true.1 hb i h) hi)⟩, rfl, slR_all h.1, hpR_all h.2.1, h.2.2.1, idsR_all h.2.2.2.1, h.2.2.2.2⟩
theorem wpc_loop {P : Program} {Γ : Gam} {D : Array Oper → St → (St → Prop) → Prop} {x : Code} {Q : Exit → St → Prop} {s : St} {α : Type} (S : α → St) (I : α → Prop) (μ : α → Nat) (a0 : α) (h0 : I a0) (hle : Le s (S a0))
    (hs : ∀ a, I a → wpc P Γ D x (thenS (fun s' => ∃ b, μ b < μ a ∧ I b ∧ Le s' (S b)) Q) (S a)) : wpc P Γ D (.loop x) Q s := by
  refine ⟨fun n s2 => ∃ a, I a ∧ n = μ a ∧ s2 = S a, ⟨_, _, hle, a0, h0, rfl, rfl⟩, ?_⟩
  rintro n s2 ⟨a, ha, rfl, rfl⟩
  have e : (fun s' => ∃ n' s2, n' < μ a ∧ Le s' s2 ∧ ∃ b, I b ∧ n' = μ b ∧ s2 = S b) = fun s' => ∃ b, μ b < μ a ∧ I b ∧ Le s' (S b) := by
    funext s'
    apply propext
    constructor
    · rintro ⟨n', s2, h1, h2, b, h3, rfl, rfl⟩; exact ⟨b, h1, h3, h2⟩
    · rintro ⟨b, h1, h3, h2⟩; exact ⟨_, _, h1, h2, b, h3, rfl, rfl⟩
  rw [e]
  exact hs a ha
section
variable {ρ : Nat → Nat} {born : List Nat}
theorem slR_nil (sl : List (Nat × AV)) : slR ρ born sl [] = True := rfl
theorem slR_cons (sl : List (Nat × AV)) (d : Nat) (c : AV) (l : List (Nat × AV)) : slR ρ born sl ((d, c) :: l) = (mtE ρ born (lk sl (.tmp d)) c ∧ slR ρ born sl l) := rfl
theorem hpR_nil (hp : Hp) : hpR ρ born hp [] = True := rfl
theorem hpR_cells (hp : Hp) (o e : Nat) (cs : List AV) (l : Hp) : hpR ρ born hp ((o, some (.cells e cs)) :: l) = ((if o ∈ born then False else (match hp.get (ρ o) with | some obj' => MtO ρ born obj' (.cells e cs) | none => False)) ∧ hpR ρ born hp l) := rfl
theorem hpR_row (hp : Hp) (o e s : Nat) (xs : List (List Dat)) (l : Hp) : hpR ρ born hp ((o, some (.row e s xs)) :: l) = ((if o ∈ born then xs = [] else (match hp.get (ρ o) with | some obj' => MtO ρ born obj' (.row e s xs) | none => False)) ∧ hpR ρ born hp l) := rfl
theorem idsR_nil (u : List Nat) : idsR u [] = True := rfl
theorem idsR_cons (u : List Nat) (d : Nat) (c : AV) (l : List (Nat × AV)) : idsR u ((d, c) :: l) = (subL c.ids u = true ∧ idsR u l) := rfl
theorem mtE_v (x' x : Value) : mtE ρ born (.d (.v x')) (.d (.v x)) = (x' = x) := by simp [mtE, Mt]
theorem mtE_sl (s' s : Nat) (x' x : List (List Dat)) : mtE ρ born (.d (.sl s' x')) (.d (.sl s x)) = (s' = s ∧ x' = x) := by simp [mtE, Mt]
theorem mtE_nil (s : Nat) (x : List (List Dat)) : mtE ρ born (.d (.v (.slice none 0 0))) (.d (.sl s x)) = (x = []) := by simp [mtE, Mt]
theorem mtE_refl (x : Dat) : mtE ρ born (.d x) (.d x) = True := by simp [mtE, Mt]
theorem mtE_row (o' n' o n : Nat) : mtE ρ born (.row o' n') (.row o n) = (o ∉ born ∧ o' = ρ o ∧ n' = n) := by simp [mtE, Mt]
theorem mtE_born (x : Dat) (o n : Nat) : mtE ρ born (.d x) (.row o n) = (x = .v (.slice none 0 0) ∧ o ∈ born ∧ n = 0) := by simp [mtE, Mt]
theorem mtE_ptr (o' f' o f : Nat) : mtE ρ born (.ptr o' f') (.ptr o f) = (o ∉ born ∧ o' = ρ o ∧ f' = f) := by simp [mtE, Mt]
theorem mtE_rp (o' s' i' f' o s i f : Nat) : mtE ρ born (.rp o' s' i' f') (.rp o s i f) = (o ∉ born ∧ o' = ρ o ∧ s' = s ∧ i' = i ∧ f' = f) := by simp [mtE, Mt]
theorem mtE_agg (l' l : List AV) : mtE ρ born (.agg l') (.agg l) = Mt.MtL ρ born l' l := by simp [mtE, Mt]
theorem mtE_tup (l' l : List AV) : mtE ρ born (.tup l') (.tup l) = Mt.MtL ρ born l' l := by simp [mtE, Mt]
theorem mtE_fn (g' g : Nat) (l' l : List AV) : mtE ρ born (.fn g' l') (.fn g l) = (g' = g ∧ Mt.MtL ρ born l' l) := by simp [mtE, Mt]
theorem mtE_ep (c' c : List Dat) (f' f : Nat) : mtE ρ born (.ep c' f') (.ep c f) = (c' = c ∧ f' = f) := by simp [mtE, Mt]
theorem MtL_nil : Mt.MtL ρ born [] [] = True := rfl
theorem MtL_cons (c' c : AV) (l' l : List AV) : Mt.MtL ρ born (c' :: l') (c :: l) = (Mt ρ born c' c ∧ Mt.MtL ρ born l' l) := rfl
theorem Mt_v (x' x : Value) : Mt ρ born (.d (.v x')) (.d (.v x)) = (x' = x) := by simp [Mt]
theorem Mt_sl (s' s : Nat) (x' x : List (List Dat)) : Mt ρ born (.d (.sl s' x')) (.d (.sl s x)) = (s' = s ∧ x' = x) := by simp [Mt]
theorem Mt_nil (s : Nat) (x : List (List Dat)) : Mt ρ born (.d (.v (.slice none 0 0))) (.d (.sl s x)) = (x = []) := by simp [Mt]
theorem Mt_refl (x : Dat) : Mt ρ born (.d x) (.d x) = True := by simp [Mt]
theorem Mt_row (o' n' o n : Nat) : Mt ρ born (.row o' n') (.row o n) = (o ∉ born ∧ o' = ρ o ∧ n' = n) := rfl
theorem Mt_born (x : Dat) (o n : Nat) : Mt ρ born (.d x) (.row o n) = (x = .v (.slice none 0 0) ∧ o ∈ born ∧ n = 0) := rfl
theorem Mt_ptr (o' f' o f : Nat) : Mt ρ born (.ptr o' f') (.ptr o f) = (o ∉ born ∧ o' = ρ o ∧ f' = f) := rfl
theorem MtO_cells (e' e : Nat) (l' l : List AV) : MtO ρ born (.cells e' l') (.cells e l) = (e' = e ∧ Mt.MtL ρ born l' l ∧ allCell l = true) := rfl
theorem MtO_row (e' s' e s : Nat) (xs' xs : List (List Dat)) : MtO ρ born (.row e' s' xs') (.row e s xs) = (e' = e ∧ s' = s ∧ xs' = xs) := rfl
end
/- Nil slices within a slice's elements count as empty ones; their elements' sizes, by column. -/
mutual
def nn (z : Nat → Nat) : Dat → Dat
  | .v u => .v u
  | .sl sz xs => .sl sz (nnR z xs)
def nnR (z : Nat → Nat) : List (List Dat) → List (List Dat)
  | [] => []
  | r :: xs => nnC z 0 r :: nnR z xs
def nnC (z : Nat → Nat) : Nat → List Dat → List Dat
  | _, [] => []
  | k, .v (.slice none 0 0) :: cs => .sl (z k) [] :: nnC z (k + 1) cs
  | k, c :: cs => nn z c :: nnC z (k + 1) cs
end
theorem nnR_get (z : Nat → Nat) : ∀ (xs : List (List Dat)) (i : Nat) (r' : List Dat), (nnR z xs)[i]? = some r' → ∃ r, xs[i]? = some r ∧ r' = nnC z 0 r
  | [], _, _, h => by simp [nnR] at h
  | r :: xs, 0, r', h => by simp only [nnR, List.getElem?_cons_zero, Option.some.injEq] at h; exact ⟨r, rfl, h.symm⟩
  | r :: xs, i + 1, r', h => by
    simp only [nnR, List.getElem?_cons_succ] at h
    exact nnR_get z xs i r' h
theorem nnC_get (z : Nat → Nat) : ∀ (r : List Dat) (k j : Nat) (x' : Dat), (nnC z k r)[j]? = some x' → ∃ x, r[j]? = some x ∧ ((x = .v (.slice none 0 0) ∧ x' = .sl (z (k + j)) []) ∨ x' = nn z x)
  | [], _, _, _, h => by simp [nnC] at h
  | c :: cs, k, 0, x', h => by
    unfold nnC at h
    split at h
    · rename_i e; cases e
    · rename_i e; injection e with e1 e2; subst e1 e2
      simp only [List.getElem?_cons_zero, Option.some.injEq] at h
      exact ⟨_, rfl, .inl ⟨rfl, h.symm⟩⟩
    · rename_i e; injection e with e1 e2; subst e1 e2
      simp only [List.getElem?_cons_zero, Option.some.injEq] at h
      exact ⟨_, rfl, .inr h.symm⟩
  | c :: cs, k, j + 1, x', h => by
    have h2 : (nnC z (k + 1) cs)[j]? = some x' := by
      unfold nnC at h
      split at h
      · rename_i e; cases e
      · rename_i e; injection e with e1 e2; subst e1 e2; exact h
      · rename_i e; injection e with e1 e2; subst e1 e2; exact h
    obtain ⟨x, h3, h4⟩ := nnC_get z cs (k + 1) j x' h2
    exact ⟨x, h3, by rwa [show k + 1 + j = k + (j + 1) by omega] at h4⟩
theorem nnC_length (z : Nat → Nat) : ∀ (r : List Dat) (k : Nat), (nnC z k r).length = r.length
  | [], _ => by simp [nnC]
  | c :: cs, k => by
    unfold nnC
    split
    · rename_i e; cases e
    · rename_i e; injection e with e1 e2; subst e1 e2; simp [nnC_length z cs]
    · rename_i e; injection e with e1 e2; subst e1 e2; simp [nnC_length z cs]
theorem nnR_length (z : Nat → Nat) : ∀ (xs : List (List Dat)), (nnR z xs).length = xs.length
  | [] => rfl
  | _ :: xs => by simp [nnR, nnR_length z xs]
theorem Rd.nn {w : World} {im1 : Nat → Prop} (z : Nat → Nat) {u : Value} {x : Dat} (h : Rd w im1 u x) : Rd w im1 u (nn z x) := by
  induction h with
  | v h => simp only [Eng.nn]; exact .v h
  | nil sz => simp only [Eng.nn, nnR]; exact .nil sz
  | @sl a len cap sz xs vs hs hl hc hi hz hw hr ih =>
    have he : nnR z xs ≠ [] → xs ≠ [] := fun h e => h (by rw [e]; rfl)
    simp only [Eng.nn]
    refine .sl vs (fun h => hs (he h)) (by rw [nnR_length]; exact hl) hc (fun h => hi (he h)) (fun i r' h1 => ?_) (fun i j r' x' h1 h2 => ?_) (fun i j r' x' h1 h2 => ?_)
    · obtain ⟨r, h2, rfl⟩ := nnR_get z xs i r' h1
      rw [nnC_length]; exact hz i r h2
    · obtain ⟨r, h3, rfl⟩ := nnR_get z xs i r' h1
      obtain ⟨x, h4, _⟩ := nnC_get z r 0 j x' h2
      exact hw i j r x h3 h4
    · obtain ⟨r, h3, rfl⟩ := nnR_get z xs i r' h1
      obtain ⟨x, h4, h5⟩ := nnC_get z r 0 j x' h2
      rcases h5 with ⟨rfl, rfl⟩ | rfl
      · have := hr i j r _ h3 h4
        generalize vs i j = v at this
        cases this
        exact .nil _
      · exact ih i j r x h3 h4
/-- Arguments: a nil slice counts as an empty one; 'r': those within the elements, too. -/
inductive NT where
  | k
  | s (sz : Nat)
  | a (l : List NT)
  | r (z : Nat → Nat)
def NT.nz : NT → AV → AV
  | .s sz, .d (.v (.slice none 0 0)) => .d (.sl sz [])
  | .a l, .agg cs => .agg (nzL l cs)
  | .r z, .d (.sl sz xs) => .d (nn z (.sl sz xs))
  | _, c => c
where nzL : List NT → List AV → List AV
  | t :: l, c :: cs => t.nz c :: nzL l cs
  | _, cs => cs
theorem nzL_length : ∀ (T : List NT) (l : List AV), (NT.nz.nzL T l).length = l.length
  | [], [] => rfl
  | [], _ :: _ => rfl
  | _ :: _, [] => rfl
  | _ :: T, _ :: l => by simp [NT.nz.nzL, nzL_length T l]
mutual
theorem Val.nz {w : World} {im1 : Nat → Prop} {m : Nat → Value} : ∀ (t : NT) {u : Value} {c : AV}, Val w im1 m u c → Val w im1 m u (t.nz c)
  | .k, u, c, h => h
  | .s sz, u, c, h => by
    unfold NT.nz
    split
    · rename_i e
      cases h with
      | d r => cases r; injection e with e; subst e; exact .d (.nil _)
    · rename_i e; cases e
    · rename_i e; cases e
    · exact h
  | .a l, u, c, h => by
    unfold NT.nz
    split
    · rename_i e; cases e
    · rename_i e
      injection e with e; subst e
      cases h with
      | agg hn hv => exact .agg (by rw [hn, nzL_length]) fun i u x h1 h2 => Val.nzL l _ (fun i u c h1 h2 => hv i u c h1 h2) i u x h1 h2
    · rename_i e; cases e
    · exact h
  | .r z, u, c, h => by
    unfold NT.nz
    split
    · rename_i e; cases e
    · rename_i e; cases e
    · rename_i e
      injection e with e; subst e
      cases h with
      | d r => exact .d (r.nn _)
    · exact h
theorem Val.nzL {w : World} {im1 : Nat → Prop} {m : Nat → Value} : ∀ (T : List NT) (l : List AV) {vals : Array Value}, (∀ (i : Nat) (u : Value) (c : AV), vals[i]? = some u → l[i]? = some c → Val w im1 m u c) →
    ∀ (i : Nat) (u : Value) (c : AV), vals[i]? = some u → (NT.nz.nzL T l)[i]? = some c → Val w im1 m u c
  | [], [], _, _, i, u, c, _, h => by cases h
  | [], _ :: _, _, hv, i, u, c, h1, h2 => hv i u c h1 h2
  | _ :: _, [], _, _, i, u, c, _, h => by cases h
  | t :: T, x :: l, vals, hv, i, u, c, h1, h2 => by
    cases i with
    | zero => cases h2; exact Val.nz t (hv 0 u x h1 rfl)
    | succ i =>
      have hs : ∀ (i : Nat) (u : Value) (c : AV), (vals.extract 1 vals.size)[i]? = some u → l[i]? = some c → Val w im1 m u c := fun i u c e1 e2 => by
        rw [Array.getElem?_extract] at e1
        split at e1
        · exact hv (1 + i) u c e1 (by rw [Nat.add_comm]; exact e2)
        · cases e1
      refine Val.nzL T l hs i u c ?_ h2
      rw [Array.getElem?_extract]
      have : i + 1 < vals.size := by
        rcases Nat.lt_or_ge (i + 1) vals.size with h | h
        · exact h
        · rw [Array.getElem?_eq_none h] at h1; cases h1
      rw [if_pos (by omega), Nat.add_comm 1 i]; exact h1
end
mutual
theorem nz_ids : ∀ (t : NT) (c : AV), c.ids = [] → (t.nz c).ids = []
  | .k, c, h => h
  | .s sz, c, h => by
    unfold NT.nz
    split
    · rfl
    · rename_i e; cases e
    · rename_i e; cases e
    · exact h
  | .a l, c, h => by
    unfold NT.nz
    split
    · rfl
    · rename_i e; injection e with e; subst e; exact nzL_ids l _ h
    · rename_i e; cases e
    · exact h
  | .r z, c, h => by
    unfold NT.nz
    split
    · rfl
    · rename_i e; cases e
    · rfl
    · exact h
theorem nzL_ids : ∀ (T : List NT) (l : List AV), AV.ids.idsL l = [] → AV.ids.idsL (NT.nz.nzL T l) = []
  | [], [], h => h
  | [], _ :: _, h => h
  | _ :: _, [], h => h
  | t :: T, x :: l, h => by
    simp only [AV.ids.idsL, List.append_eq_nil_iff, NT.nz.nzL] at h ⊢
    exact ⟨nz_ids t x h.1, nzL_ids T l h.2⟩
end
theorem Calm.nz {P : Program} {g : Nat} {T : List NT} {args : List AV} {res : AV} (h : Calm P g (NT.nz.nzL T args) res) : Calm P g args res :=
  ⟨h.1, h.2.1, fun C m w hp vals I hs hv => h.2.2 C m w hp vals I (by rw [hs, nzL_length]) fun i u c h1 h2 => Val.nzL T args hv i u c h1 h2⟩
theorem Known.addN {P : Program} {Γ : Gam} (hm : P.follows .mixedOrders = true) (K : Known P Γ) {g0 : Nat} (T : List NT) {F : List AV → Option (Prop × AV)}
    (hF : ∀ args sc res, F args = some (sc, res) → sc → AV.ids.idsL args = [] → res.ids = [] ∧ Body P Γ (DRun P Γ) g0 args res) : Known P (Γ.add g0 fun a => F (NT.nz.nzL T a)) :=
  ⟨K.ok.add fun args sc res h hs hi => let ⟨h1, h2⟩ := hF _ sc res h hs (nzL_ids T args hi); (Body.calm K.ok (Draws hm K.ok K.loc) (nzL_ids T args hi) h1 h2).nz, K.loc.add g0 _⟩
theorem Known.calm {P : Program} {Γ : Gam} (hm : P.follows .mixedOrders = true) (K : Known P Γ) {g : Nat} {args : List AV} {res : AV} (hi : AV.ids.idsL args = []) (hr : res.ids = []) (hb : Body P Γ (DRun P Γ) g args res) : Calm P g args res :=
  Body.calm K.ok (Draws hm K.ok K.loc) hi hr hb
theorem Known.addC {P : Program} {Γ : Gam} (K : Known P Γ) {g0 : Nat} (T : List NT) {F : List AV → Option (Prop × AV)}
    (hF : ∀ args sc res, F args = some (sc, res) → sc → Calm P g0 args res) : Known P (Γ.add g0 fun a => F (NT.nz.nzL T a)) :=
  ⟨K.ok.add fun args sc res h hs _ => (hF _ sc res h hs).nz, K.loc.add g0 _⟩
theorem nzL_nil (l : List AV) : NT.nz.nzL [] l = l := by cases l <;> rfl
theorem nzL_cons (t : NT) (T : List NT) (c : AV) (l : List AV) : NT.nz.nzL (t :: T) (c :: l) = t.nz c :: NT.nz.nzL T l := rfl
theorem nz_k (c : AV) : NT.k.nz c = c := by cases c <;> rfl
theorem nz_sl (z sz : Nat) (xs : List (List Dat)) : (NT.s z).nz (.d (.sl sz xs)) = .d (.sl sz xs) := rfl
theorem nz_nil (z : Nat) : (NT.s z).nz (.d (.v (.slice none 0 0))) = .d (.sl z []) := rfl
theorem nz_r (z : Nat → Nat) (sz : Nat) (xs : List (List Dat)) : (NT.r z).nz (.d (.sl sz xs)) = .d (.sl sz (nnR z xs)) := by simp only [NT.nz, nn]
theorem nz_agg (T : List NT) (l : List AV) : (NT.a T).nz (.agg l) = .agg (NT.nz.nzL T l) := rfl
end Go.Proofs.Ytlhhibhcoefolaa.Eng
