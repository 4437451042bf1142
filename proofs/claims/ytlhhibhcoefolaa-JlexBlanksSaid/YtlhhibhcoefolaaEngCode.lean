/- Code on the small machine: what is known may be let go or named anew at a loop's head. -/
import Derived.Test.YtlhhibhcoefolaaEngWp
namespace Go.Proofs.Ytlhhibhcoefolaa.Eng
open Go
set_option linter.unusedVariables false
set_option linter.unusedSimpArgs false
/-- The one value is known as the other, where names turn by ρ; a nil slice may become an empty row (born). -/
def Mt (ρ : Nat → Nat) (born : List Nat) : AV → AV → Prop
  | _, .bad => True
  | .d x, .row o n => x = .v (.slice none 0 0) ∧ o ∈ born ∧ n = 0
  | .row o' n', .row o n => o ∉ born ∧ o' = ρ o ∧ n' = n
  | .ptr o' f', .ptr o f => o ∉ born ∧ o' = ρ o ∧ f' = f
  | .rp o' s' i' f', .rp o s i f => o ∉ born ∧ o' = ρ o ∧ s' = s ∧ i' = i ∧ f' = f
  | .agg l', .agg l => MtL ρ born l' l
  | .tup l', .tup l => MtL ρ born l' l
  | .fn g' l', .fn g l => g' = g ∧ MtL ρ born l' l
  | .d x', .d x => x' = x ∨ (x' = .v (.slice none 0 0) ∧ ∃ sz, x = .sl sz [])
  | .ep c' f', .ep c f => c' = c ∧ f' = f
  | _, _ => False
where MtL (ρ : Nat → Nat) (born : List Nat) : List AV → List AV → Prop
  | [], [] => True
  | c' :: l', c :: l => Mt ρ born c' c ∧ MtL ρ born l' l
  | _, _ => False
def MtO (ρ : Nat → Nat) (born : List Nat) : AObj → AObj → Prop
  | .cells e' l', .cells e l => e' = e ∧ Mt.MtL ρ born l' l ∧ allCell l = true
  | .row e' s' xs', .row e s xs => e' = e ∧ s' = s ∧ xs' = xs
  | _, _ => False
def liveIds : Hp → List Nat
  | [] => []
  | (o, some _) :: l => o :: liveIds l
  | (_, none) :: l => liveIds l
def distinct (ρ : Nat → Nat) (born : List Nat) : List Nat → Prop
  | [] => True
  | a :: l => (a ∉ born → ∀ b ∈ l, b ∉ born → b ≠ a → ρ b ≠ ρ a) ∧ distinct ρ born l
/-- What is known in s is known in s2, by other names. -/
def LeBy (ρ : Nat → Nat) (born : List Nat) (s s2 : St) : Prop :=
  s2.n = s.n ∧ (∀ p ∈ s2.sl, ∃ c', s.sl.lookup p.1 = some c' ∧ Mt ρ born c' p.2) ∧
  (∀ p ∈ s2.hp, match p.2 with
    | some obj => if p.1 ∈ born then (match obj with | .row _ _ xs => xs = [] | _ => False) else ∃ obj', s.hp.get (ρ p.1) = some obj' ∧ MtO ρ born obj' obj
    | none => True) ∧
  distinct ρ born (liveIds s2.hp) ∧ (s2.sl.all fun p => subL p.2.ids s2.used) = true ∧ subL (upIds s2.hp) s2.used = true
/-- Own rows let go for good: what knows them reads their elements from now on. -/
def frA (h : Nat → Option AObj) (fr : List Nat) : AV → AV
  | .row o n => if fr.contains o then (match h o with
    | some (.row _ sz xs) => .d (.sl sz xs)
    | _ => .bad) else .row o n
  | c => c
def St.frz (s : St) (fr : List Nat) : St := { s with sl := s.sl.map fun p => (p.1, frA s.hp.get fr p.2), hp := drops fr ++ s.hp }
theorem frA_nil (h : Nat → Option AObj) (c : AV) : frA h [] c = c := by cases c <;> rfl
theorem St.frz_nil (s : St) : s.frz [] = s := by
  obtain ⟨n, u, sl, hp⟩ := s
  simp only [St.frz, frA_nil, List.map_id', drops, List.map_nil, List.nil_append]
def Le (s s2 : St) : Prop := ∃ fr ρ born, (∀ i, 10000 ≤ i → ρ i = i ∧ i ∉ born) ∧ LeBy ρ born (s.frz fr) s2
theorem lookup_frA (h : Nat → Option AObj) (fr : List Nat) (l : List (Nat × AV)) (t : Nat) : (l.map fun p => (p.1, frA h fr p.2)).lookup t = (l.lookup t).map (frA h fr) := by
  induction l with
  | nil => rfl
  | cons p l ih =>
    obtain ⟨a, x⟩ := p
    rw [List.map_cons, lookup_cons, lookup_cons, ih]
    split <;> rfl
theorem frA_ids (h : Nat → Option AObj) (fr : List Nat) (c : AV) : ∀ i ∈ (frA h fr c).ids, i ∈ c.ids := fun i hi => by
  cases c with
  | row o n =>
    simp only [frA] at hi
    split at hi
    · split at hi <;> simp [AV.ids] at hi
    · exact hi
  | _ => exact hi
theorem Sat.frz {C : Ctx} {m : Nat → Value} {w : World} {a : Act} {s : St} (S : Sat C m s a w) (fr : List Nat) : Sat C m (s.frz fr) a w := by
  have hsub := drops_sub fr s.hp
  obtain ⟨I1, k1⟩ := S.inv.drop hsub
  refine ⟨I1, S.size, S.defers, fun t c hl => ?_, fun o obj ho => S.heap o obj (hsub o obj ho), S.small, S.pin⟩
  have hl : (s.sl.map fun p => (p.1, frA s.hp.get fr p.2)).lookup t = some c := hl
  rw [lookup_frA] at hl
  cases hx : s.sl.lookup t with
  | none => rw [hx] at hl; cases hl
  | some c0 =>
    rw [hx] at hl
    cases hl
    obtain ⟨q1, q2⟩ := S.slots t c0 hx
    refine ⟨?_, fun i hi => q2 i (frA_ids _ _ _ i hi)⟩
    have keep : Val w (im C m w (drops fr ++ s.hp)) m (a.tmps.getD t undef) c0 := q1.mono k1 (fun _ _ => rfl)
    show Val w (im C m w (drops fr ++ s.hp)) m (a.tmps.getD t undef) (frA s.hp.get fr c0)
    cases c0 with
    | row o n =>
      simp only [frA]
      split
      · rename_i hf
        split
        · rename_i e0 sz xs ho
          generalize a.tmps.getD t undef = u at q1
          cases q1 with
          | row hm => exact .d (hm ▸ row_rd S.inv ho hsub (by rw [drops_get, if_pos (by simpa using hf)]))
        · exact .bad _
      · exact keep
    | _ => exact keep
theorem MtL_length {ρ : Nat → Nat} {born : List Nat} : ∀ {l' l : List AV}, Mt.MtL ρ born l' l → l'.length = l.length
  | [], [], _ => rfl
  | _ :: _, _ :: _, h => by simp [MtL_length h.2]
  | [], _ :: _, h => h.elim
  | _ :: _, [], h => h.elim
theorem MtL_get {ρ : Nat → Nat} {born : List Nat} : ∀ {l' l : List AV}, Mt.MtL ρ born l' l → ∀ (i : Nat) (c : AV), l[i]? = some c → ∃ c', l'[i]? = some c' ∧ Mt ρ born c' c
  | c' :: l', c :: l, h, 0, x, hx => by cases hx; exact ⟨c', rfl, h.1⟩
  | c' :: l', c :: l, h, i + 1, x, hx => by
    obtain ⟨y, h1, h2⟩ := MtL_get h.2 i x (by simpa using hx)
    exact ⟨y, by simpa using h1, h2⟩
  | [], [], _, _, _, hx => by simp at hx
  | [], _ :: _, h, _, _, _ => h.elim
  | _ :: _, [], h, _, _, _ => h.elim
theorem Val.mt {w : World} {im1 : Nat → Prop} {m m2 : Nat → Value} {ρ : Nat → Nat} {born : List Nat} (hm : ∀ o, o ∉ born → m2 o = m (ρ o)) (hb : ∀ o ∈ born, m2 o = .slice none 0 0) :
    ∀ {u : Value} {c' : AV}, Val w im1 m u c' → ∀ {c : AV}, Mt ρ born c' c → Val w im1 m2 u c := by
  intro u c' h
  induction h with
  | @d u x r =>
    intro c hc
    cases c with
    | bad => exact .bad _
    | d y =>
      rcases (show x = y ∨ (x = .v (.slice none 0 0) ∧ ∃ sz, y = .sl sz []) from hc) with h | ⟨h, sz, h2⟩
      · subst h; exact .d r
      · subst h; subst h2; cases r; exact .d (.nil sz)
    | row o n =>
      obtain ⟨rfl, h1, rfl⟩ := (show _ ∧ _ ∧ _ from hc)
      cases r
      exact .row (hb o h1)
    | _ => exact absurd hc (by simp [Mt])
  | @agg us cs hn _ ih =>
    intro c hc
    cases c with
    | bad => exact .bad _
    | agg l =>
      have hc : Mt.MtL ρ born cs l := hc
      exact .agg (by rw [hn, MtL_length hc]) fun i u x h1 h2 => by
        obtain ⟨y, h3, h4⟩ := MtL_get hc i x h2
        exact ih i u y h1 h3 h4
    | _ => exact absurd hc (by simp [Mt])
  | @ptr o off b e =>
    intro c hc
    cases c with
    | bad => exact .bad _
    | ptr o' f' =>
      obtain ⟨h1, rfl, rfl⟩ := (show _ ∧ _ ∧ _ from hc)
      exact .ptr (by rw [hm _ h1]; exact e)
    | _ => exact absurd hc (by simp [Mt])
  | @ep a cs off vs hs hi hw hr =>
    intro c hc
    cases c with
    | bad => exact .bad _
    | ep l f => obtain ⟨rfl, rfl⟩ := (show _ ∧ _ from hc); exact .ep vs hs hi hw hr
    | _ => exact absurd hc (by simp [Mt])
  | @row o n cap a e =>
    intro c hc
    cases c with
    | bad => exact .bad _
    | row o' n' => obtain ⟨h1, rfl, rfl⟩ := (show _ ∧ _ ∧ _ from hc); exact .row (by rw [hm _ h1]; exact e)
    | _ => exact absurd hc (by simp [Mt])
  | @rp o sz i off b n cap e =>
    intro c hc
    cases c with
    | bad => exact .bad _
    | rp o' s' i' f' => obtain ⟨h1, rfl, rfl, rfl, rfl⟩ := (show _ ∧ _ ∧ _ ∧ _ ∧ _ from hc); exact .rp (by rw [hm _ h1]; exact e)
    | _ => exact absurd hc (by simp [Mt])
  | @fn f us cs hn _ ih =>
    intro c hc
    cases c with
    | bad => exact .bad _
    | fn g l =>
      obtain ⟨rfl, hc2⟩ := (show _ ∧ Mt.MtL ρ born cs l from hc)
      exact .fn (by rw [hn, MtL_length hc2]) fun i u x h1 h2 => by
        obtain ⟨y, h3, h4⟩ := MtL_get hc2 i x h2
        exact ih i u y h1 h3 h4
    | _ => exact absurd hc (by simp [Mt])
  | @tup us cs hn _ ih =>
    intro c hc
    cases c with
    | bad => exact .bad _
    | tup l =>
      have hc : Mt.MtL ρ born cs l := hc
      exact .tup (by rw [hn, MtL_length hc]) fun i u x h1 h2 => by
        obtain ⟨y, h3, h4⟩ := MtL_get hc i x h2
        exact ih i u y h1 h3 h4
    | _ => exact absurd hc (by simp [Mt])
  | gd _ _ =>
    intro c hc
    cases c with
    | bad => exact .bad _
    | _ => exact absurd hc (by simp [Mt])
  | bad u =>
    intro c hc
    cases c with
    | bad => exact .bad _
    | _ => exact absurd hc (by simp [Mt])
/-- What is known, said more loosely: a nil slice is an empty one. -/
def Sub (c res : AV) : Prop := c = res ∨ Mt id [] c res
@[refl] theorem Sub.refl (c : AV) : Sub c c := .inl rfl
theorem Sub.nil (sz : Nat) : Sub (.d (.v (.slice none 0 0))) (.d (.sl sz [])) := .inr (.inr ⟨rfl, sz, rfl⟩)
theorem Sub.nil' {sz : Nat} {xs : List (List Dat)} (h : xs = []) : Sub (.d (.v (.slice none 0 0))) (.d (.sl sz xs)) := h ▸ Sub.nil sz
theorem Sub.eq {c res : AV} (h : c = res) : Sub c res := .inl h
theorem Sub.tup {l l' : List AV} (h : Mt.MtL id [] l l') : Sub (.tup l) (.tup l') := .inr h
theorem Val.sub {w : World} {im1 : Nat → Prop} {m : Nat → Value} {u : Value} {c res : AV} (hv : Val w im1 m u c) (h : Sub c res) : Val w im1 m u res := by
  rcases h with rfl | h
  · exact hv
  · exact hv.mt (m2 := m) (ρ := id) (born := []) (fun _ _ => rfl) (fun _ h => by cases h) h
theorem get_mem {hp : Hp} {o : Nat} {obj : AObj} (h : hp.get o = some obj) : (o, some obj) ∈ hp ∧ o ∈ liveIds hp := by
  induction hp with
  | nil => simp [Hp.get] at h
  | cons p l ih =>
    obtain ⟨a, x⟩ := p
    rw [Hp.get_cons] at h
    split at h
    · rename_i e
      subst e
      subst h
      simp [liveIds]
    · obtain ⟨h1, h2⟩ := ih h
      refine ⟨List.mem_cons_of_mem _ h1, ?_⟩
      cases x <;> simp [liveIds, h2]
theorem distinct_spec {ρ : Nat → Nat} {born : List Nat} : ∀ {l : List Nat}, distinct ρ born l → ∀ a ∈ l, ∀ b ∈ l, a ∉ born → b ∉ born → a ≠ b → ρ a ≠ ρ b
  | x :: l, ⟨h1, h2⟩, a, ha, b, hb, na, nb, hne => by
    rcases List.mem_cons.1 ha with ea | ha' <;> rcases List.mem_cons.1 hb with eb | hb'
    · exact absurd (ea.trans eb.symm) hne
    · subst ea; exact fun e => h1 na b hb' nb (fun q => hne q.symm) e.symm
    · subst eb; exact h1 nb a ha' na hne
    · exact distinct_spec h2 a ha' b hb' na nb hne
theorem lookup_mem {l : List (Nat × AV)} {t : Nat} {c : AV} (h : l.lookup t = some c) : (t, c) ∈ l := by
  induction l with
  | nil => cases h
  | cons p l ih =>
    obtain ⟨a, x⟩ := p
    rw [lookup_cons] at h
    split at h
    · rename_i e; cases h; subst e; exact List.mem_cons_self
    · exact List.mem_cons_of_mem _ (ih h)
theorem upIds_mem {hp : Hp} {o : Nat} {obj : AObj} (h : (o, some obj) ∈ hp) : o ∈ upIds hp ∧ ∀ i ∈ obj.ids, i ∈ upIds hp := by
  induction hp with
  | nil => cases h
  | cons p l ih =>
    obtain ⟨a, x⟩ := p
    rcases List.mem_cons.1 h with e | h
    · cases e; simp only [upIds, List.mem_append, List.mem_cons, true_or, true_and]; exact fun i hi => .inl (.inr hi)
    · obtain ⟨h1, h2⟩ := ih h
      cases x with
      | none => exact ⟨h1, h2⟩
      | some y => simp only [upIds, List.mem_append, List.mem_cons]; exact ⟨.inr h1, fun i hi => .inr (h2 i hi)⟩
section
variable {P : Program} {Γ : Gam} {C : Ctx} {m : Nat → Value} {w : World} {a : Act} {s s2 : St}
theorem Sat.le (S : Sat C m s a w) (h : Le s s2) : ∃ m2, Sat C m2 s2 a w := by
  obtain ⟨fr, ρ, born, hpin, h1, h2, h3, h4, h5, h6⟩ := h
  replace S := S.frz fr
  generalize s.frz fr = s at S h1 h2 h3
  let m2 : Nat → Value := fun o => if o ∈ born then .slice none 0 0 else m (ρ o)
  have mb : ∀ o ∈ born, m2 o = .slice none 0 0 := fun o h => if_pos h
  have mn : ∀ o, o ∉ born → m2 o = m (ρ o) := fun o h => if_neg h
  have obj_of : ∀ o obj, s2.hp.get o = some obj → (o ∈ born ∧ ∃ e sz, obj = .row e sz []) ∨ (o ∉ born ∧ ∃ obj', s.hp.get (ρ o) = some obj' ∧ MtO ρ born obj' obj) := fun o obj ho => by
    have := h3 _ (get_mem ho).1
    simp only at this
    split at this
    · rename_i hb
      refine .inl ⟨hb, ?_⟩
      cases obj with
      | cells _ cs => exact this.elim
      | row e sz xs => simp only at this; subst this; exact ⟨e, sz, rfl⟩
    · rename_i hb
      exact .inr ⟨hb, this⟩
  have him : ∀ b, im C m w s.hp b → im C m2 w s2.hp b ∧ w.heap[b]? = w.heap[b]? := fun b hb => by
    refine ⟨⟨hb.1, hb.2.1, fun o obj ho => ?_⟩, rfl⟩
    rcases obj_of o obj ho with ⟨h, _⟩ | ⟨h, obj', h', _⟩
    · rw [mb o h]; simp [blk]
    · rw [mn o h]; exact hb.2.2 _ _ h'
  refine ⟨m2, ⟨S.inv.os, S.inv.tape, S.inv.output, S.inv.size, S.inv.frame, fun o obj ho => ?_, fun o o' obj obj' b ho ho' hne hb => ?_, fun o obj b ho hb => ?_⟩, by rw [S.size, h1], S.defers, fun t c hl => ?_, fun o obj ho => ?_, by rw [h1]; exact S.small, fun i hi => by rw [mn i (hpin i hi).2, (hpin i hi).1]; exact S.pin i hi⟩
  · rcases obj_of o obj ho with ⟨h, e, sz, rfl⟩ | ⟨h, obj', h', hmt⟩
    · exact ⟨[], by rw [mb o h]; exact World.ownsRow_nil w 0 e sz, by simp, by simp⟩
    · have := (S.inv.live _ _ h').mono him (fun _ _ => rfl) rfl (fun _ _ => rfl)
      cases obj with
      | cells e l =>
        cases obj' with
        | row _ _ _ => exact hmt.elim
        | cells e' l' =>
          obtain ⟨rfl, hmt, hcell⟩ := hmt
          obtain ⟨b, us, q1, q2, q3, q4, q5⟩ := this
          refine ⟨b, us, by rw [mn o h]; exact q1, q2, by rw [q3]; exact MtL_length hmt, fun i u c r1 r2 => ?_, fun c hc => List.all_eq_true.1 hcell c hc⟩
          obtain ⟨y, r3, r4⟩ := MtL_get hmt i c r2
          exact (q4 i u y r1 r3).mt mn mb r4
      | row e sz xs =>
        cases obj' with
        | cells _ _ => exact hmt.elim
        | row e' sz' xs' =>
          obtain ⟨rfl, rfl, rfl⟩ := hmt
          obtain ⟨us, q1, q2⟩ := this
          exact ⟨us, by rw [mn o h]; exact q1, q2⟩
  · rcases obj_of o obj ho with ⟨h, _⟩ | ⟨h, x, hx, _⟩
    · rw [mb o h] at hb; cases hb
    · rcases obj_of o' obj' ho' with ⟨h', _⟩ | ⟨h', x', hx', _⟩
      · rw [mb o' h']; simp [blk]
      · rw [mn o h] at hb
        rw [mn o' h']
        exact S.inv.sep _ _ _ _ b hx hx' (distinct_spec h4 o (get_mem ho).2 o' (get_mem ho').2 h h' hne) hb
  · rcases obj_of o obj ho with ⟨h, _⟩ | ⟨h, x, hx, _⟩
    · rw [mb o h] at hb; cases hb
    · rw [mn o h] at hb; exact S.inv.own _ _ b hx hb
  · obtain ⟨c', hc', hmt⟩ := h2 _ (lookup_mem hl)
    exact ⟨((S.slots t c' hc').1.mono him (fun _ _ => rfl)).mt mn mb hmt, fun i hi => subL_mem (List.all_eq_true.1 h5 _ (lookup_mem hl)) i hi⟩
  · obtain ⟨q1, q2⟩ := upIds_mem (get_mem ho).1
    exact ⟨subL_mem h6 o q1, fun i hi => subL_mem h6 i (q2 i hi)⟩

def thenS (next : St → Prop) (Q : Exit → St → Prop) : Exit → St → Prop
  | .normal, s => next s
  | e, s => Q e s
def inBlockS (id : Nat) (Q : Exit → St → Prop) : Exit → St → Prop
  | .exit j, s => if j = id then Q .normal s else Q (.exit j) s
  | e, s => Q e s
def condS (s : St) (c : Operand) (x y : Prop) : Prop :=
  match s.look c with
  | .d (.v (.bool b)) => if b = true then x else y
  | _ => False
/-- What is known behind the code. Regions that draw ask more (drawOk). -/
def wpc (P : Program) (Γ : Gam) (drawOk : Array Oper → St → (St → Prop) → Prop) : Code → (Exit → St → Prop) → St → Prop
  | .skip, Q, s => Q .normal s
  | .region _ ops false, Q, s => runOps P Γ ops ops.toList s (Q .normal)
  | .region _ ops true, Q, s => drawOk ops s (Q .normal)
  | .seq x y, Q, s => wpc P Γ drawOk x (thenS (wpc P Γ drawOk y Q) Q) s
  | .cond c x y, Q, s => condS s c (wpc P Γ drawOk x Q s) (wpc P Γ drawOk y Q s)
  | .block id x, Q, s => wpc P Γ drawOk x (inBlockS id Q) s
  | .loop x, Q, s => ∃ I : Nat → St → Prop, (∃ n s2, Le s s2 ∧ I n s2) ∧ ∀ n s, I n s → wpc P Γ drawOk x (thenS (fun s' => ∃ n' s2, n' < n ∧ Le s' s2 ∧ I n' s2) Q) s
  | .exit id, Q, s => Q (.exit id) s
  | .ret, Q, s => Q .ret s
  | _, _, _ => False
def Lift (C : Ctx) (Q : Exit → St → Prop) (e : Exit) (a : Act) (w : World) : Prop := ∃ s m, Sat C m s a w ∧ Q e s
/-- Regions that draw their order come to what the text's order comes to. -/
def DrawOk (P : Program) (Γ : Gam) (drawOk : Array Oper → St → (St → Prop) → Prop) : Prop :=
  ∀ (C : Ctx) (id : Nat) (ops : Array Oper) (Q : Exit → St → Prop) (s : St) (m : Nat → Value) (a : Act) (w : World), drawOk ops s (Q .normal) → Sat C m s a w → (Code.region id ops true).wp P (Lift C Q) a w
theorem wpc_ok (hG : Gok P Γ) {drawOk : Array Oper → St → (St → Prop) → Prop} (hD : DrawOk P Γ drawOk) : ∀ (c : Code) (Q : Exit → St → Prop) (s : St) (m : Nat → Value) (a : Act) (w : World), wpc P Γ drawOk c Q s → Sat C m s a w → c.wp P (Lift C Q) a w
  | .skip, Q, s, m, a, w, h, S => wp_skip ⟨s, m, S, h⟩
  | .region id ops true, Q, s, m, a, w, h, S => hD C id ops Q s m a w h S
  | .region id ops false, Q, s, m, a, w, h, S => by
    refine wp_region (runOps_ok hG (K := Q .normal) (fun a w s m S h => ⟨s, m, S, h⟩) _ ops.toList s m a w (by simp) (fun k i o e1 e2 => ?_) S h)
    rw [Array.getElem?_toList] at e2
    have hk : k < ops.size := (Array.getElem?_eq_some_iff.1 e2).1
    rw [List.getElem?_range hk] at e1
    cases e1
    exact e2
  | .seq x y, Q, s, m, a, w, h, S => by
    refine wp_seq (wp_mono (wpc_ok hG hD x _ s m a w h S) fun e a' w' hq => ?_)
    obtain ⟨s', m', S', hq⟩ := hq
    cases e with
    | normal => exact wpc_ok hG hD y Q s' m' a' w' hq S'
    | _ => exact ⟨s', m', S', hq⟩
  | .cond c x y, Q, s, m, a, w, h, S => by
    have h : condS s c (wpc P Γ drawOk x Q s) (wpc P Γ drawOk y Q s) := h
    unfold condS at h
    split at h
    case h_2 => exact h.elim
    rename_i b hb
    have hv := S.operands c
    rw [hb] at hv
    generalize hu : a.eval c = u at hv
    cases hv with
    | d hv =>
    cases hv
    refine wp_cond hu ?_
    cases b with
    | true => exact wpc_ok hG hD x Q s m a w h S
    | false => exact wpc_ok hG hD y Q s m a w h S
  | .block id x, Q, s, m, a, w, h, S => by
    refine wp_block (wp_mono (wpc_ok hG hD x _ s m a w h S) fun e a' w' hq => ?_)
    obtain ⟨s', m', S', hq⟩ := hq
    cases e with
    | exit j =>
      show if j = id then _ else _
      have hq : if j = id then Q .normal s' else Q (.exit j) s' := hq
      split
      · rename_i e; rw [if_pos e] at hq; exact ⟨s', m', S', hq⟩
      · rename_i e; rw [if_neg e] at hq; exact ⟨s', m', S', hq⟩
    | _ => exact ⟨s', m', S', hq⟩
  | .loop x, Q, s, m, a, w, h, S => by
    obtain ⟨I, ⟨n, s2, hle, hI⟩, hround⟩ := h
    obtain ⟨m2, S2⟩ := S.le hle
    refine wp_loop_ghost (fun n a w => ∃ s m, Sat C m s a w ∧ I n s) n ⟨s2, m2, S2, hI⟩ fun n a w hJ => ?_
    obtain ⟨s, m, S, hI⟩ := hJ
    refine wp_mono (wpc_ok hG hD x _ s m a w (hround n s hI) S) fun e a' w' hq => ?_
    obtain ⟨s', m', S', hq⟩ := hq
    cases e with
    | normal =>
      obtain ⟨n', s2, hlt, hle, hI'⟩ := hq
      obtain ⟨m2, S2⟩ := S'.le hle
      exact ⟨n', hlt, s2, m2, S2, hI'⟩
    | _ => exact ⟨s', m', S', hq⟩
  | .exit id, Q, s, m, a, w, h, S => wp_exit ⟨s, m, S, h⟩
  | .ret, Q, s, m, a, w, h, S => wp_ret ⟨s, m, S, h⟩
  | .rangeFunc _ _ _ _, _, _, _, _, _, h, _ => h.elim
  | .scope _, _, _, _, _, _, h, _ => h.elim
  | .label _, _, _, _, _, _, h, _ => h.elim
  | .goto _, _, _, _, _, _, h, _ => h.elim
  | .refuse _, _, _, _, _, _, h, _ => h.elim
end
end Go.Proofs.Ytlhhibhcoefolaa.Eng
