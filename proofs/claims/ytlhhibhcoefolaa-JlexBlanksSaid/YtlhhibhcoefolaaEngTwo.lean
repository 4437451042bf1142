/- Calls behind which two rows are new: names 9000 and 9001; and code whose regions are not all the machine's own. -/
import Derived.Test.YtlhhibhcoefolaaEngHeap
namespace Go.Proofs.Ytlhhibhcoefolaa.Eng
open Go
set_option linter.unusedVariables false
set_option linter.unusedSimpArgs false
def HCall.τ2 (X : HCall) (d d' : Nat) (i : Nat) : Nat := if i = 9000 then d else if i = 9001 then d' else X.sg i
def HCall.up2 (X : HCall) (d d' : Nat) : Hp := X.out.map (fun p => (X.τ2 d d' p.1, some (p.2.rn (X.τ2 d d')))) ++ X.gone.map fun i => (X.sg i, none)
def HCall.tidy2 (X : HCall) : Bool :=
  (liveIds X.chp).all (fun i => Nat.ble 10000 i) && subL (AV.ids.idsL X.args) (upIds X.chp) && subL (X.res.ids ++ upIds X.hp') (X.out.map (·.1)) &&
  (X.out.map (·.1)).all (fun i => (i == 9000 || i == 9001) || ((liveIds X.chp).contains i && !X.born.contains i)) && decide (X.out.map (·.1)).Nodup
section
variable {P : Program}
theorem HCalm.post2 {g : Nat} {X : HCall} (hc : HCalm P g X.args X.chp X.res X.hp') (ht : X.tidy2 = true) {C : Ctx} {m : Nat → Value} {w : World} {hp : Hp} {args : List AV} {vals : Array Value} {d d' : Nat}
    (hM : HMatch hp args X) (I : Inv C m w hp) (hsz : vals.size = args.length)
    (hv : ∀ (i : Nat) (u : Value) (c : AV), vals[i]? = some u → args[i]? = some c → Val w (im C m w hp) m u c) (hf1 : Fr hp d) (hf2 : Fr hp d') (hdd : d' ≠ d) :
    (∃ fn, P.funcs[g]? = some fn ∧ (fn.name == "runtime.NumGoroutine") = false ∧ fn.body.isNone = false) ∧ Calls P g vals w fun en w' => ∃ v, en = .returned v ∧ ∃ m', (∀ o, o ≠ d → o ≠ d' → m' o = m o) ∧ Inv C m' w' (X.up2 d d' ++ hp) ∧ Val w' (im C m' w' (X.up2 d d' ++ hp)) m' v (X.res.rn (X.τ2 d d')) ∧ ∀ b, im C m w hp b → im C m' w' (X.up2 d d' ++ hp) b ∧ w'.heap[b]? = w.heap[b]? := by
  obtain ⟨M1, M2, M3⟩ := hM
  simp only [HCall.tidy2, Bool.and_eq_true] at ht
  obtain ⟨⟨⟨⟨t1, t2⟩, t3⟩, t4⟩, t5⟩ := ht
  have t5 := of_decide_eq_true t5
  -- who is handed over
  let pass : Nat → Bool := fun o => (liveIds X.chp).any fun i => !X.born.contains i && X.sg i == o
  let hp1 : Hp := hp.filter fun q => pass q.1
  have passed : ∀ i, i ∈ liveIds X.chp → i ∉ X.born → pass (X.sg i) = true := fun i h1 h2 => List.any_eq_true.2 ⟨i, h1, by simp [h2]⟩
  have hsub : ∀ o obj, hp1.get o = some obj → hp.get o = some obj ∧ pass o = true := fun o obj h => by
    rw [get_filter] at h
    split at h
    · exact ⟨h, by assumption⟩
    · cases h
  let C2 : Ctx := ⟨w, fun b => ∃ o obj, hp1.get o = some obj ∧ blk (m o) = some b, im C m w hp, fun b hb => hb.1, fun b hb ⟨o, obj, h1, h2⟩ => hb.2.2 o obj (hsub o obj h1).1 h2, fun _ => .nilFunc, I.tab⟩
  have him1 : ∀ b, im C m w hp b → im C2 m w hp1 b ∧ w.heap[b]? = w.heap[b]? := fun b hb => ⟨⟨hb.1, .inl hb, fun o obj ho => hb.2.2 o obj (hsub o obj ho).1⟩, rfl⟩
  have I1 : Inv C2 m w hp1 := ⟨rfl, rfl, rfl, Nat.le_refl _, fun _ _ _ => rfl, fun o obj ho => (I.live o obj (hsub o obj ho).1).mono him1 (fun _ _ => rfl) rfl (fun _ _ => rfl),
    fun o o' obj obj' b h1 h2 => I.sep o o' obj obj' b (hsub _ _ h1).1 (hsub _ _ h2).1, fun o obj b ho hb => .inl ⟨o, obj, ho, hb⟩⟩
  have hR1 : hpR X.sg X.born hp1 X.chp := by
    have key : ∀ (l : Hp), (∀ i ∈ liveIds l, i ∈ liveIds X.chp) → hpR X.sg X.born hp l → hpR X.sg X.born hp1 l := by
      intro l
      induction l with
      | nil => exact fun _ h => h
      | cons p l ih =>
        obtain ⟨a, x⟩ := p
        cases x with
        | none => exact fun h1 h2 => ih h1 h2
        | some x =>
          refine fun h1 h2 => ⟨?_, ih (fun i hi => h1 i (List.mem_cons_of_mem _ hi)) h2.2⟩
          have h3 := h2.1
          split
          · rename_i hb; rw [if_pos hb] at h3; exact h3
          · rename_i hb
            rw [if_neg hb] at h3
            rw [show hp1.get (X.sg a) = hp.get (X.sg a) by rw [get_filter, if_pos (passed a (h1 a List.mem_cons_self) hb)]]
            exact h3
    exact key X.chp (fun _ h => h) M2
  obtain ⟨m2, n1, n2, I2, n3, n4⟩ := I1.le hR1 M3
  let C3 : Ctx := { C2 with pin := m2 }
  have I3 : Inv C3 m2 w X.chp := ⟨I2.os, I2.tape, I2.output, I2.size, I2.frame, I2.live, I2.sep, I2.own⟩
  obtain ⟨hfn, hcall⟩ := hc
  refine ⟨hfn, (hcall C3 m2 w vals rfl (fun _ _ => rfl) I3 (by rw [hsz]; exact MtL_length M1) fun i u c h1 h2 => ?_).mono ?_⟩
  · obtain ⟨c', h3, h4⟩ := MtL_get M1 i c h2
    exact n4 u c' c ((hv i u c' h1 h3).mono him1 (fun _ _ => rfl)) h4
  rintro en w' ⟨v, mm, q1, q2, q3, q4⟩
  refine ⟨v, q1, ?_⟩
  -- behind the call
  let m' : Nat → Value := fun i => if i = d then mm 9000 else if i = d' then mm 9001 else m i
  have old : ∀ o, o ≠ d → o ≠ d' → m' o = m o := fun o h1 h2 => by show (if o = d then _ else _) = _; rw [if_neg h1, if_neg h2]
  have oldF : ∀ o x, hp.get o = some x → m' o = m o := fun o x h => old o (hf1 _ _ h).1 (hf2 _ _ h).1
  have kinds : ∀ i ∈ X.out.map (·.1), i = 9000 ∨ i = 9001 ∨ (i ≠ 9000 ∧ i ≠ 9001 ∧ i ∈ liveIds X.chp ∧ i ∉ X.born) := fun i hi => by
    have := List.all_eq_true.1 t4 i hi
    simp only [Bool.or_eq_true, Bool.and_eq_true, beq_iff_eq, List.contains_iff_mem, Bool.not_eq_true', ← Bool.not_eq_true] at this
    rcases this with (h | h) | ⟨h1, h2⟩
    · exact .inl h
    · exact .inr (.inl h)
    · have h3 := List.all_eq_true.1 t1 i h1
      have h3 : 10000 ≤ i := Nat.le_of_ble_eq_true h3
      exact .inr (.inr ⟨by omega, by omega, h1, h2⟩)
  have live1 : ∀ i, i ∈ liveIds X.chp → i ∉ X.born → ∃ obj, hp1.get (X.sg i) = some obj := fun i h1 h2 => by
    have : ∀ (l : Hp), hpR X.sg X.born hp1 l → i ∈ liveIds l → ∃ obj, hp1.get (X.sg i) = some obj := by
      intro l
      induction l with
      | nil => intro _ h; cases h
      | cons p l ih =>
        obtain ⟨a, x⟩ := p
        cases x with
        | none => exact fun h hi => ih h hi
        | some x =>
          intro h hi
          rcases List.mem_cons.1 hi with rfl | hi
          · have h3 := h.1
            rw [if_neg h2] at h3
            cases hg : hp1.get (X.sg i) with
            | none => rw [hg] at h3; exact h3.elim
            | some y => exact ⟨y, rfl⟩
          · exact ih h.2 hi
    exact this X.chp hR1 h1
  have hτ : ∀ i ∈ X.out.map (·.1), m' (X.τ2 d d' i) = mm i := fun i hi => by
    rcases kinds i hi with rfl | rfl | ⟨h1, h1', h2, h3⟩
    · rw [HCall.τ2, if_pos rfl]; exact if_pos rfl
    · rw [HCall.τ2, if_neg (by decide), if_pos rfl]; show (if d' = d then _ else _) = _; rw [if_neg hdd, if_pos rfl]
    · rw [HCall.τ2, if_neg h1, if_neg h1']
      obtain ⟨obj, ho⟩ := live1 i h2 h3
      rw [oldF _ _ (hsub _ _ ho).1, ← n1 i h3, q2 i (Nat.le_of_ble_eq_true (List.all_eq_true.1 t1 i h2))]
  have ids_in : ∀ i, i ∈ X.res.ids ++ upIds X.hp' → i ∈ X.out.map (·.1) := fun i hi => subL_mem t3 i hi
  have getup : ∀ o x, Hp.get (X.up2 d d' ++ hp) o = some x → (∃ i obj, (i, obj) ∈ X.out ∧ o = X.τ2 d d' i ∧ x = obj.rn (X.τ2 d d')) ∨ (hp.get o = some x ∧ hp1.get o = none) := fun o x h => by
    rw [HCall.up2, List.append_assoc] at h
    rcases get_map_out _ _ _ _ _ _ h with h | ⟨h1, h2⟩
    · exact .inl h
    · obtain ⟨h3, h4⟩ := get_gone _ _ _ _ _ h1
      refine .inr ⟨h3, ?_⟩
      rw [get_filter]
      split
      · rename_i hp0
        exfalso
        obtain ⟨i, h5, h6⟩ := List.any_eq_true.1 hp0
        simp only [Bool.and_eq_true, Bool.not_eq_true', beq_iff_eq] at h6
        by_cases hin : i ∈ X.out.map (·.1)
        · obtain ⟨p, hp2, rfl⟩ := List.mem_map.1 hin
          refine h2 p hp2 ?_
          have h7 : 10000 ≤ p.1 := Nat.le_of_ble_eq_true (List.all_eq_true.1 t1 _ h5)
          rw [HCall.τ2, if_neg (by omega), if_neg (by omega)]
          exact h6.2.symm
        · refine h4 i (List.mem_filter.2 ⟨h5, ?_⟩) h6.2.symm
          rw [h6.1]
          simpa using hin
      · rfl
  have own3 : ∀ b, C3.own0 b → ∃ o obj, hp1.get o = some obj ∧ blk (m o) = some b := fun b h => h
  -- the blocks
  have hkeep : ∀ b, im C m w hp b → w'.heap[b]? = w.heap[b]? := fun b hb => q3.frame b hb.1 fun h => by
    obtain ⟨o, obj, h1, h2⟩ := own3 b h
    exact hb.2.2 o obj (hsub o obj h1).1 h2
  have oldblk : ∀ o x b, hp.get o = some x → hp1.get o = none → blk (m o) = some b → w'.heap[b]? = w.heap[b]? := fun o x b h1 h2 h3 => q3.frame b ((I.live o x h1).blk_lt b h3) fun h => by
    obtain ⟨o', obj, h4, h5⟩ := own3 b h
    have hne : o ≠ o' := fun q => by subst q; rw [h2] at h4; cases h4
    exact I.sep o o' x obj b h1 (hsub _ _ h4).1 hne h3 h5
  have newblk : ∀ i obj b, (i, obj) ∈ X.out → blk (mm i) = some b → (∃ o x, hp1.get o = some x ∧ blk (m o) = some b) ∨ w.heap.size ≤ b := fun i obj b h1 h2 => q3.own i obj b (get_out h1 t5) h2
  have apart : ∀ o x i obj b, hp.get o = some x → hp1.get o = none → (i, obj) ∈ X.out → blk (mm i) = some b → blk (m o) ≠ some b := fun o x i obj b h1 h2 h3 h4 h5 => by
    rcases newblk i obj b h3 h4 with ⟨o', x', h6, h7⟩ | h6
    · have hne : o ≠ o' := fun q => by subst q; rw [h2] at h6; cases h6
      exact I.sep o o' x x' b h1 (hsub _ _ h6).1 hne h5 h7
    · have := (I.live o x h1).blk_lt b h5; omega
  have himp : ∀ b, im C3 mm w' X.hp' b → im C m' w' (X.up2 d d' ++ hp) b := fun b hb => by
    refine ⟨hb.1, ?_, fun o x ho => ?_⟩
    · rcases hb.2.1 with h | ⟨o, obj, h1, h2⟩ | h
      · exact h.2.1
      · rcases I.own o obj b (hsub _ _ h1).1 h2 with h | h
        · exact .inr (.inl h)
        · exact .inr (.inr h)
      · exact .inr (.inr (Nat.le_trans I.size h))
    · rcases getup o x ho with ⟨i, obj, h1, rfl, rfl⟩ | ⟨h1, h2⟩
      · rw [hτ i (List.mem_map.2 ⟨_, h1, rfl⟩)]
        exact hb.2.2 i obj (get_out h1 t5)
      · rw [oldF o _ h1]
        intro h3
        rcases hb.2.1 with h | ⟨o', obj, h4, h5⟩ | h
        · exact h.2.2 o x h1 h3
        · have hne : o ≠ o' := fun q => by subst q; rw [h2] at h4; cases h4
          exact I.sep o o' x obj b h1 (hsub _ _ h4).1 hne h3 h5
        · have := (I.live o x h1).blk_lt b h3
          have h : w.heap.size ≤ b := h
          omega
  have himo : ∀ b, im C m w hp b → im C m' w' (X.up2 d d' ++ hp) b ∧ w'.heap[b]? = w.heap[b]? := fun b hb => by
    refine ⟨⟨Nat.lt_of_lt_of_le hb.1 q3.size, hb.2.1, fun o x ho => ?_⟩, hkeep b hb⟩
    rcases getup o x ho with ⟨i, obj, h1, rfl, rfl⟩ | ⟨h1, h2⟩
    · rw [hτ i (List.mem_map.2 ⟨_, h1, rfl⟩)]
      intro h3
      rcases newblk i obj b h1 h3 with ⟨o, x, h4, h5⟩ | h4
      · exact hb.2.2 o x (hsub _ _ h4).1 h5
      · have := hb.1; omega
    · rw [oldF o _ h1]; exact hb.2.2 o x h1
  refine ⟨m', old, ⟨q3.os.trans I.os, q3.tape.trans I.tape, q3.output.trans I.output, Nat.le_trans I.size q3.size, fun b h1 h2 => ?_, fun o x ho => ?_, fun o o' x x' b ho ho' hne hb => ?_, fun o x b ho hb => ?_⟩, ?_, himo⟩
  · have hlt : b < w.heap.size := Nat.lt_of_lt_of_le h1 I.size
    rw [q3.frame b hlt fun h => by
      obtain ⟨o, obj, h3, h4⟩ := own3 b h
      rcases I.own o obj b (hsub _ _ h3).1 h4 with h | h
      · exact h2 h
      · omega]
    exact I.frame b h1 h2
  · rcases getup o x ho with ⟨i, obj, h1, rfl, rfl⟩ | ⟨h1, h2⟩
    · have hin : i ∈ X.out.map (·.1) := List.mem_map.2 ⟨_, h1, rfl⟩
      have hob := q3.live i obj (get_out h1 t5)
      have := hob.rn (m' := m') (τ := X.τ2 d d') (hτ i hin) fun j hj => hτ j (ids_in j (List.mem_append.2 (.inr ((upIds_mem (get_mem (get_out h1 t5)).1).2 j hj))))
      exact this.mono (m' := m') (w' := w') (fun b hb => ⟨himp b hb, rfl⟩) (fun _ _ => rfl) rfl (fun _ _ => rfl)
    · exact (I.live o x h1).mono himo (fun b hb => oldblk o x b h1 h2 hb) (oldF o _ h1) fun i hi => old i (fun q => (hf1 _ _ h1).2 (q ▸ hi)) fun q => (hf2 _ _ h1).2 (q ▸ hi)
  · rcases getup o x ho with ⟨i, obj, h1, rfl, rfl⟩ | ⟨h1, h2⟩ <;> rcases getup o' x' ho' with ⟨i', obj', h3, rfl, rfl⟩ | ⟨h3, h4⟩
    · rw [hτ i (List.mem_map.2 ⟨_, h1, rfl⟩)] at hb
      rw [hτ i' (List.mem_map.2 ⟨_, h3, rfl⟩)]
      exact q3.sep i i' obj obj' b (get_out h1 t5) (get_out h3 t5) (fun q => hne (by rw [q])) hb
    · rw [hτ i (List.mem_map.2 ⟨_, h1, rfl⟩)] at hb
      rw [oldF o' _ h3]
      exact apart o' x' i obj b h3 h4 h1 hb
    · rw [hτ i' (List.mem_map.2 ⟨_, h3, rfl⟩)]
      rw [oldF o _ h1] at hb
      exact fun q => apart o x i' obj' b h1 h2 h3 q hb
    · rw [oldF o _ h1] at hb
      rw [oldF o' _ h3]
      exact I.sep o o' x x' b h1 h3 hne hb
  · rcases getup o x ho with ⟨i, obj, h1, rfl, rfl⟩ | ⟨h1, h2⟩
    · rw [hτ i (List.mem_map.2 ⟨_, h1, rfl⟩)] at hb
      rcases newblk i obj b h1 hb with ⟨o', x', h4, h5⟩ | h4
      · exact I.own o' x' b (hsub _ _ h4).1 h5
      · exact .inr (Nat.le_trans I.size h4)
    · rw [oldF o _ h1] at hb
      exact I.own o x b h1 hb
  · exact ((q4.rn (m' := m') (τ := X.τ2 d d') fun i hi => hτ i (ids_in i (List.mem_append.2 (.inl hi)))).mono (m' := m') (fun b hb => ⟨himp b hb, rfl⟩) fun _ _ => rfl)
end
section
variable {P : Program} {Γ : Gam} {D : Array Oper → St → (St → Prop) → Prop} {C : Ctx}
/-- What code comes to, from a state on. -/
def Wp (P : Program) (C : Ctx) (c : Code) (Q : Exit → St → Prop) (s : St) : Prop := ∀ (m : Nat → Value) (a : Act) (w : World), Sat C m s a w → c.wp P (Lift C Q) a w
theorem Wp.of (hG : Gok P Γ) (hD : DrawOk P Γ D) {c : Code} {Q : Exit → St → Prop} {s : St} (h : wpc P Γ D c Q s) : Wp P C c Q s := fun m a w S => wpc_ok hG hD c Q s m a w h S
theorem Wp.seq {x y : Code} {Q : Exit → St → Prop} {s : St} (h : Wp P C x (thenS (fun s => Wp P C y Q s) Q) s) : Wp P C (.seq x y) Q s := fun m a w S => by
  refine wp_seq (wp_mono (h m a w S) fun e a' w' hq => ?_)
  obtain ⟨s', m', S', hq⟩ := hq
  cases e with
  | normal => exact hq m' a' w' S'
  | _ => exact ⟨s', m', S', hq⟩
theorem Wp.block {id : Nat} {x : Code} {Q : Exit → St → Prop} {s : St} (h : Wp P C x (inBlockS id Q) s) : Wp P C (.block id x) Q s := fun m a w S => by
  refine wp_block (wp_mono (h m a w S) fun e a' w' hq => ?_)
  obtain ⟨s', m', S', hq⟩ := hq
  cases e with
  | exit j =>
    show if j = id then _ else _
    have hq : if j = id then Q .normal s' else Q (.exit j) s' := hq
    split
    · rename_i e; rw [if_pos e] at hq; exact ⟨s', m', S', hq⟩
    · rename_i e; rw [if_neg e] at hq; exact ⟨s', m', S', hq⟩
  | _ => exact ⟨s', m', S', hq⟩
theorem Wp.loop {x : Code} {Q : Exit → St → Prop} {s : St} {α : Type} (T : α → St) (I : α → Prop) (μ : α → Nat) (a0 : α) (h0 : I a0) (hle : Le s (T a0))
    (hs : ∀ a, I a → Wp P C x (thenS (fun s' => ∃ b, μ b < μ a ∧ I b ∧ Le s' (T b)) Q) (T a)) : Wp P C (.loop x) Q s := fun m a w S => by
  obtain ⟨m2, S2⟩ := S.le hle
  refine wp_loop_ghost (fun n a w => ∃ q m, Sat C m (T q) a w ∧ I q ∧ μ q = n) (μ a0) ⟨a0, m2, S2, h0, rfl⟩ fun n a w hJ => ?_
  obtain ⟨q, m, S, hI, rfl⟩ := hJ
  refine wp_mono (hs q hI m a w S) fun e a' w' hq => ?_
  obtain ⟨s', m', S', hq⟩ := hq
  cases e with
  | normal =>
    obtain ⟨b, hlt, hb, hle⟩ := hq
    obtain ⟨m2, S2⟩ := S'.le hle
    exact ⟨μ b, hlt, b, m2, S2, hb, rfl⟩
  | _ => exact ⟨s', m', S', hq⟩
theorem Wp.mono {c : Code} {Q Q' : Exit → St → Prop} {s : St} (h : Wp P C c Q s) (hQ : ∀ e s, Q e s → Q' e s) : Wp P C c Q' s := fun m a w S => wp_mono (h m a w S) fun e a' w' hq => by
  cases e with
  | _ => 
    obtain ⟨s', m', S', hq⟩ := hq
    exact ⟨s', m', S', hQ _ _ hq⟩
/-- The state behind a call with two new rows. -/
def St.two (s : St) (X : HCall) (dst d d' : Nat) : St := { n := s.n, used := d :: d' :: s.used, sl := (dst, X.res.rn (X.τ2 d d')) :: s.sl, hp := X.up2 d d' ++ s.hp }
theorem Sat.two {m : Nat → Value} {s : St} {a : Act} {w : World} (S : Sat C m s a w) {X : HCall} {dst d d' : Nat} (hdst : dst < s.n) (hn : d ∉ s.used) (hn' : d' ∉ s.used) (hs : d < 10000) (hs' : d' < 10000) (hsub : subL ((X.res.rn (X.τ2 d d')).ids ++ upIds (X.up2 d d')) (d :: d' :: s.used) = true) {v : Value} {w' : World}
    (h : ∃ m', (∀ o, o ≠ d → o ≠ d' → m' o = m o) ∧ Inv C m' w' (X.up2 d d' ++ s.hp) ∧ Val w' (im C m' w' (X.up2 d d' ++ s.hp)) m' v (X.res.rn (X.τ2 d d')) ∧ ∀ b, im C m w s.hp b → im C m' w' (X.up2 d d' ++ s.hp) b ∧ w'.heap[b]? = w.heap[b]?) :
    ∃ m', Sat C m' (s.two X dst d d') (a.put (some dst) v) w' := by
  obtain ⟨m', h1, h2, h3, h4⟩ := h
  have hm : ∀ i, i ∈ s.used → m' i = m i := fun i hi => h1 i (fun e => hn (e ▸ hi)) fun e => hn' (e ▸ hi)
  have hsb := subL_mem hsub
  refine ⟨m', h2, ?_, S.defers, fun t c hl => ?_, fun o' obj ho => ?_, S.small, fun i hi => (h1 i (by omega) (by omega)).trans (S.pin i hi)⟩
  · simp [Act.put, St.two, S.size]
  · simp only [St.two] at hl
    rw [lookup_cons] at hl
    rw [put_getD a dst v t (by rw [S.size]; exact hdst)]
    split at hl
    · rename_i e0
      cases hl
      rw [if_pos e0]
      exact ⟨h3, fun i hi => hsb i (List.mem_append.2 (.inl hi))⟩
    · rename_i e0
      rw [if_neg e0]
      obtain ⟨q1, q2⟩ := S.slots t c hl
      exact ⟨q1.mono h4 fun i hi => hm i (q2 i hi), fun i hi => List.mem_cons_of_mem _ (List.mem_cons_of_mem _ (q2 i hi))⟩
  · rcases upIds_get ho with ⟨k1, k2⟩ | ho
    · exact ⟨hsb _ (List.mem_append.2 (.inr k1)), fun i hi => hsb i (List.mem_append.2 (.inr (k2 i hi)))⟩
    · obtain ⟨k1, k2⟩ := S.heap o' obj ho
      exact ⟨List.mem_cons_of_mem _ (List.mem_cons_of_mem _ k1), fun i hi => List.mem_cons_of_mem _ (List.mem_cons_of_mem _ (k2 i hi))⟩
/-- A region that is a call, of one operand. -/
theorem Wp.call2 {id : Nat} {o1 o2 : Oper} {t t1 dst g : Nat} {ts : Array TypeId} {Q : Exit → St → Prop} {s : St} {X : HCall} (d d' : Nat)
    (h1 : o1.op = .move (.tmp t)) (h1d : o1.dst = some t1) (h1g : o1.guard = none) (h2 : o2.op = .call { callee := .value (.func g), args := #[.tmp t1], argTypes := ts }) (h2d : o2.dst = some dst) (h2g : o2.guard = none)
    (ht1 : t1 < s.n) (hdst : dst < s.n) {c : AV} (hc : s.look (.tmp t) = c) (hX : HCalm P g X.args X.chp X.res X.hp') (htd : X.tidy2 = true) (hM : HMatch s.hp [c] X)
    (hn : d ∉ s.used) (hn' : d' ∉ s.used) (hs : d < 10000) (hs' : d' < 10000) (hdd : d' ≠ d) (hsub : subL ((X.res.rn (X.τ2 d d')).ids ++ upIds (X.up2 d d')) (d :: d' :: s.used) = true)
    (hQ : Q .normal (St.two { s with sl := (t1, c) :: s.sl } X dst d d')) : Wp P C (.region id #[o1, o2] false) Q s := fun m a w S => by
  refine wp_region ?_
  have S1 : Sat C m { s with sl := (t1, c) :: s.sl } (a.put (some t1) (a.eval (.tmp t))) w := by
    refine ⟨S.inv, by simp [Act.put, S.size], S.defers, fun t' c' hl => ?_, S.heap, S.small, S.pin⟩
    rw [lookup_cons] at hl
    rw [put_getD a t1 _ t' (by rw [S.size]; exact ht1)]
    split at hl
    · rename_i e0
      cases hl
      rw [if_pos e0]
      subst hc
      exact ⟨S.operands _, S.operand_ids _⟩
    · rename_i e0
      rw [if_neg e0]
      exact S.slots t' c' hl
  rw [show List.range #[o1, o2].size = [0, 1] from rfl, wpOps_cons]
  have w1 : ∀ f, Region.wanted o1 f = true := fun f => by simp [Region.wanted, h1g]
  have w2 : ∀ f, Region.wanted o2 f = true := fun f => by simp [Region.wanted, h2g]
  show (if Region.wanted o1 (yielded #[o1, o2] a.tmps) = true then _ else _)
  rw [if_pos (w1 _)]
  refine .inl (show o1.wp P a w _ _ from ?_)
  unfold Oper.wp
  rw [show (execOp a.eval o1).run P w = .ok (.value (a.eval (.tmp t))) w by simp only [execOp, h1]; rfl, Oper.upon_value, h1d, wpOps_cons]
  generalize a.put (some t1) (a.eval (.tmp t)) = a1 at S1 ⊢
  show (if Region.wanted o2 (yielded #[o1, o2] a1.tmps) = true then _ else _)
  rw [if_pos (w2 _)]
  refine .inl (show o2.wp P a1 w _ _ from ?_)
  have hlook : St.look { s with sl := (t1, c) :: s.sl } (.tmp t1) = c := by
    show (List.lookup t1 ((t1, c) :: s.sl)).getD .bad = c
    rw [lookup_cons, if_pos rfl]; rfl
  have hv := S1.operands (.tmp t1)
  rw [hlook] at hv
  obtain ⟨⟨fn, g1, g2, g3⟩, hcalls⟩ := hX.post2 htd (vals := #[a1.eval (.tmp t1)]) (args := [c]) (d := d) (d' := d') hM S1.inv rfl (fun i u c' e1 e2 => by
    match i, e1, e2 with
    | 0, e1, e2 => cases e1; cases e2; exact hv
    | i + 1, e1, e2 => simp at e1) (S1.fr hn) (S1.fr hn') hdd
  have hrun : (execOp a1.eval o2).run P w = .ok (.enter g #[a1.eval (.tmp t1)]) w := by
    simp only [execOp, h2, resolve, show a1.eval (.func g) = .func (.func g) #[] #[] from rfl, Deferred.ofValue, invoke, Sem.run_bind, Sem.run_pure, Result.andThen_ok, callFunc, run_program, g1, g2, g3, Bool.false_eq_true, if_false, Array.empty_append, Array.append_empty, List.map_toArray, List.map_cons, List.map_nil]
  unfold Oper.wp
  rw [hrun, Oper.upon_enter]
  refine hcalls.mono fun en w' ⟨v, hen, hp⟩ => ?_
  subst hen
  obtain ⟨m', S2⟩ := S1.two hdst hn hn' hs hs' hsub hp
  rw [h2d]
  exact ⟨_, m', S2, hQ⟩
/-- A call, by what its body comes to. -/
def BodyW (P : Program) (g : Nat) (args : List AV) (res : AV) : Prop :=
  ∃ fn c, P.funcs[g]? = some fn ∧ (fn.name == "runtime.NumGoroutine") = false ∧ fn.body = some c ∧ (args.length ≤ fn.ntmps ∧ fn.ntmps ≤ 10000) ∧ ∀ C, Wp P C c (retQ P fn res) { n := fn.ntmps, used := [], sl := startL 0 args, hp := [] }
theorem BodyW.of {g : Nat} {args : List AV} {res : AV} {fn : Func} {c : Code} {n : Nat} (h1 : P.funcs[g]? = some fn) (hn : fn.ntmps = n) (h2 : (fn.name == "runtime.NumGoroutine") = false) (h3 : fn.body = some c) {rs : List ResultVar} (hr : fn.results = rs.toArray)
    (hl : (Nat.ble args.length n && Nat.ble n 10000) = true) (h : ∀ C, Wp P C c (retR P rs res) ⟨n, [], startL 0 args, []⟩) : BodyW P g args res := ⟨fn, c, h1, h2, h3, by rw [hn]; rw [Bool.and_eq_true] at hl; exact ⟨Nat.le_of_ble_eq_true hl.1, Nat.le_of_ble_eq_true hl.2⟩, by
  have hr' : rs = fn.results.toList := by rw [hr]
  have e : retQ P fn res = retR P rs res := by subst hr'; funext e s; cases e <;> rfl
  rw [hn, e]; exact h⟩
theorem BodyW.calm {g : Nat} {args : List AV} {res : AV} (hids : AV.ids.idsL args = []) (hres : res.ids = []) (h : BodyW P g args res) : Calm P g args res := by
  obtain ⟨fn, c, h1, h2, h3, h4, h5⟩ := h
  refine ⟨⟨fn, h1, h2, by rw [h3]; rfl⟩, hres, fun C m w hp vals I hsz hv => ?_⟩
  let C' : Ctx := ⟨w, fun _ => False, im C m w hp, fun b hb => hb.1, fun _ _ h => h, m, I.tab⟩
  have him : ∀ b, im C m w hp b → im C' m w [] b ∧ w.heap[b]? = w.heap[b]? := fun b hb => ⟨⟨hb.1, .inl hb, fun o obj ho => by simp [Hp.get] at ho⟩, rfl⟩
  have I' : Inv C' m w [] := ⟨rfl, rfl, rfl, Nat.le_refl _, fun _ _ _ => rfl, fun o obj ho => by simp [Hp.get] at ho, fun o o' obj obj' b ho => by simp [Hp.get] at ho, fun o obj b ho => by simp [Hp.get] at ho⟩
  have S : Sat C' m { n := fn.ntmps, used := [], sl := startL 0 args, hp := [] } { tmps := vals ++ Array.replicate (fn.ntmps - vals.size) undef, defers := [] } w := by
    refine ⟨I', by simp; omega, rfl, fun t c hl => ?_, fun o obj ho => by simp [Hp.get] at ho, h4.2, fun _ _ => rfl⟩
    obtain ⟨_, hc⟩ := startL_lookup args 0 t c hl
    simp only [Nat.sub_zero] at hc
    have ht : t < vals.size := by rw [hsz]; exact (List.getElem?_eq_some_iff.1 hc).1
    have hcm := idsL_nil hids c (List.mem_of_getElem? hc)
    refine ⟨?_, fun i hi => by rw [hcm] at hi; cases hi⟩
    have e : (vals ++ Array.replicate (fn.ntmps - vals.size) undef).getD t undef = vals.getD t undef := by
      simp [Array.getElem?_append, ht]
    simp only [e]
    exact (hv t _ c (by simp [ht]) hc).mono him (fun _ _ => rfl)
  refine calls_of_wp h1 h3 (wp_mono (h5 _ m _ w S) fun e a' w' hq => ?_)
  obtain ⟨s', m', S', hq⟩ := hq
  have fin : retQ P fn res .ret s' → a'.defers = [] ∧ ∃ v, (results fn a'.tmps).run P w' = .ok v w' ∧ ∃ v', Ending.returned v = .returned v' ∧ w'.os = w.os ∧ w'.tape = w.tape ∧ w'.output = w.output ∧ w.heap.size ≤ w'.heap.size ∧
      (∀ k, k < w.heap.size → w'.heap[k]? = w.heap[k]?) ∧ Val w' (im C m w' hp) m v' res := fun hq => by
    refine ⟨S'.defers, ?_⟩
    unfold retQ at hq
    simp only at hq
    split at hq
    case h_2 => exact hq.elim
    rename_i l hl
    split at hq
    case h_2 => exact hq.elim
    rename_i c' k hc'
    obtain ⟨vs, q1, q2, q3⟩ := results_ok S' _ l hl
    have hone := one_val q2 q3
    have hfz := fz_val S'.inv (drops_sub k s'.hp) hc' (fun o ho => by rw [drops_get, if_pos ho]) hone
    replace hfz := hfz.sub hq
    have hsame : ∀ k, k < w.heap.size → w'.heap[k]? = w.heap[k]? := fun k hk => S'.inv.frame k hk (fun h => h)
    obtain ⟨Iw, _⟩ := I.ext S'.inv.os S'.inv.tape S'.inv.output S'.inv.size hsame
    refine ⟨_, results_run q1, _, rfl, S'.inv.os, S'.inv.tape, S'.inv.output, S'.inv.size, hsame, hfz.mono (fun b hb => ⟨?_, rfl⟩) (fun i hi => by rw [hres] at hi; cases hi)⟩
    obtain ⟨b1, b2, _⟩ := hb
    rcases b2 with b2 | b2 | b2
    · exact ⟨b1, b2.2.1, b2.2.2⟩
    · exact b2.elim
    · have b2 : w.heap.size ≤ b := b2
      refine ⟨b1, .inr (.inr (Nat.le_trans I.size b2)), fun o obj ho e => ?_⟩
      have := (I.live o obj ho).blk_lt b e
      omega
  cases e with
  | normal => exact fin hq
  | ret => exact fin hq
  | _ => exact hq.elim
end
end Go.Proofs.Ytlhhibhcoefolaa.Eng
