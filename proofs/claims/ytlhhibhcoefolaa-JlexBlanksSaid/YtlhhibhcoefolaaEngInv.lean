/- How what is known of a call's memory stands while blocks are made, written and let go. -/
import Derived.Test.YtlhhibhcoefolaaEng
namespace Go.Proofs.Ytlhhibhcoefolaa.Eng
open Go
set_option linter.unusedVariables false
set_option linter.unusedSimpArgs false

theorem Hp.get_cons (o : Nat) (x : Option AObj) (hp : Hp) (i : Nat) : Hp.get ((o, x) :: hp) i = if i = o then x else Hp.get hp i := by
  by_cases h : i = o
  · subst h
    simp [Hp.get]
  · simp [Hp.get, List.lookup_cons, h, beq_eq_false_iff_ne.2 h]
theorem ownsRow.blk_lt {w : World} {e sz : Nat} {v : Value} {n : Nat} {us : List Value} (h : w.ownsRow 0 e sz v n us) (b : Nat) (hb : blk v = some b) : b < w.heap.size := by
  rcases h.2 with ⟨rfl, _⟩ | ⟨g, cap, cur, rfl, _, hg, _⟩
  · cases hb
  · cases hb
    exact (Array.getElem?_eq_some_iff.1 hg).1
theorem ObjSat.blk_lt {w : World} {im : Nat → Prop} {m : Nat → Value} {o : Nat} {obj : AObj} (h : ObjSat w im m o obj) (b : Nat) (hb : blk (m o) = some b) : b < w.heap.size := by
  cases obj with
  | cells e cs =>
    obtain ⟨b', us, h1, h2, _⟩ := h
    rw [h1] at hb
    cases hb
    exact (Array.getElem?_eq_some_iff.1 h2).1
  | row e sz xs =>
    obtain ⟨us, h1, _⟩ := h
    exact ownsRow.blk_lt h1 b hb
theorem ObjSat.mono {w w' : World} {im im' : Nat → Prop} {m m' : Nat → Value} {o : Nat} {obj : AObj} (h : ∀ b, im b → im' b ∧ w'.heap[b]? = w.heap[b]?)
    (hb : ∀ b, blk (m o) = some b → w'.heap[b]? = w.heap[b]?) (hm : m' o = m o) (hi : ∀ i ∈ obj.ids, m' i = m i) (r : ObjSat w im m o obj) : ObjSat w' im' m' o obj := by
  cases obj with
  | cells e cs =>
    obtain ⟨b, us, h1, h2, h3, h4, h5⟩ := r
    exact ⟨b, us, by rw [hm, h1], by rw [hb b (by rw [h1]; rfl)]; exact h2, h3, fun i u c q1 q2 => (h4 i u c q1 q2).mono h fun o ho => hi o (idsL_mem q2 o ho), h5⟩
  | row e sz xs =>
    obtain ⟨us, h1, h2, h3⟩ := r
    refine ⟨us, ?_, h2, fun i j r x q1 q2 => ?_⟩
    · rw [hm]
      refine ⟨h1.1, ?_⟩
      rcases h1.2 with hn | ⟨g, cap, cur, hv, hg, hh, rest⟩
      · exact .inl hn
      · exact .inr ⟨g, cap, cur, hv, hg, by rw [hb g (by rw [hv]; rfl)]; exact hh, rest⟩
    · obtain ⟨u, q3, q4⟩ := h3 i j r x q1 q2
      exact ⟨u, q3, q4.mono h⟩

section
variable {C : Ctx} {m m' : Nat → Value} {w w' : World} {hp hp1 : Hp}
theorem Inv.not_im (I : Inv C m w hp) {o : Nat} {obj : AObj} {b : Nat} (h : hp.get o = some obj) (hb : blk (m o) = some b) : ¬ im C m w hp b := fun h' => h'.2.2 o obj h hb
/-- One object is made, or written; others may have been let go. -/
theorem Inv.put (I : Inv C m w hp) (hsub : ∀ o obj, hp1.get o = some obj → hp.get o = some obj) (d : Nat) (obj : AObj) (hm : ∀ o, o ≠ d → m' o = m o)
    (hfr : m' d = m d ∨ ∀ o obj, hp1.get o = some obj → o ≠ d → d ∉ obj.ids)
    (hos : w'.os = w.os) (htape : w'.tape = w.tape) (hout : w'.output = w.output) (hsz : w.heap.size ≤ w'.heap.size)
    (hk : ∀ k, k < w.heap.size → blk (m' d) ≠ some k → w'.heap[k]? = w.heap[k]?)
    (hb : ∀ b, blk (m' d) = some b → (C.own0 b ∨ C.w0.heap.size ≤ b) ∧ ¬ im C m w hp b ∧ ∀ o obj, hp1.get o = some obj → o ≠ d → blk (m o) ≠ some b)
    (hobj : ∀ im', (∀ b, im C m w hp b → im' b ∧ w'.heap[b]? = w.heap[b]?) → ObjSat w' im' m' d obj) :
    Inv C m' w' ((d, some obj) :: hp1) ∧ (∀ b, im C m w hp b → im C m' w' ((d, some obj) :: hp1) b ∧ w'.heap[b]? = w.heap[b]?) := by
  have gd : ∀ o x, Hp.get ((d, some obj) :: hp1) o = some x → (o = d ∧ x = obj) ∨ (o ≠ d ∧ hp1.get o = some x) := fun o x h => by
    rw [Hp.get_cons] at h
    by_cases e : o = d
    · rw [if_pos e] at h; exact .inl ⟨e, (Option.some.inj h).symm⟩
    · rw [if_neg e] at h; exact .inr ⟨e, h⟩
  have hmo : ∀ b, im C m w hp b → im C m' w' ((d, some obj) :: hp1) b ∧ w'.heap[b]? = w.heap[b]? := fun b h => by
    have hne : blk (m' d) ≠ some b := fun e => (hb b e).2.1 h
    refine ⟨⟨Nat.lt_of_lt_of_le h.1 hsz, h.2.1, fun o x ho => ?_⟩, hk b h.1 hne⟩
    rcases gd o x ho with ⟨rfl, _⟩ | ⟨hod, ho'⟩
    · exact hne
    · rw [hm o hod]; exact h.2.2 o x (hsub o x ho')
  refine ⟨⟨hos.trans I.os, htape.trans I.tape, hout.trans I.output, Nat.le_trans I.size hsz, fun b h1 h2 => ?_, fun o x ho => ?_, fun o o' x x' b ho ho' hne hbo => ?_, fun o x b ho hbo => ?_⟩, hmo⟩
  · rw [hk b (Nat.lt_of_lt_of_le h1 I.size) (fun e => by rcases (hb b e).1 with h | h <;> first | exact h2 h | omega)]
    exact I.frame b h1 h2
  · rcases gd o x ho with ⟨rfl, rfl⟩ | ⟨hod, ho'⟩
    · exact hobj _ hmo
    · refine (I.live o x (hsub o x ho')).mono hmo (fun b hb' => ?_) (hm o hod) (fun i hi => ?_)
      · exact hk b ((I.live o x (hsub o x ho')).blk_lt b hb') (fun e => (hb b e).2.2 o x ho' hod hb')
      · by_cases e : i = d
        · subst e
          rcases hfr with h | h
          · exact h
          · exact absurd hi (h o x ho' hod)
        · exact hm i e
  · rcases gd o x ho with ⟨rfl, _⟩ | ⟨hod, h1⟩ <;> rcases gd o' x' ho' with ⟨rfl, _⟩ | ⟨hod', h2⟩
    · exact absurd rfl hne
    · rw [hm o' hod']; exact (hb b hbo).2.2 o' x' h2 hod'
    · intro e; rw [hm o hod] at hbo; exact (hb b e).2.2 o x h1 hod hbo
    · rw [hm o hod] at hbo; rw [hm o' hod']; exact I.sep o o' x x' b (hsub o x h1) (hsub o' x' h2) hne hbo
  · rcases gd o x ho with ⟨rfl, _⟩ | ⟨hod, h1⟩
    · exact (hb b hbo).1
    · rw [hm o hod] at hbo; exact I.own o x b (hsub o x h1) hbo
/-- Objects are let go. -/
theorem Inv.drop (I : Inv C m w hp) (hsub : ∀ o obj, hp1.get o = some obj → hp.get o = some obj) :
    Inv C m w hp1 ∧ (∀ b, im C m w hp b → im C m w hp1 b ∧ w.heap[b]? = w.heap[b]?) := by
  have hmo : ∀ b, im C m w hp b → im C m w hp1 b ∧ w.heap[b]? = w.heap[b]? := fun b h => ⟨⟨h.1, h.2.1, fun o x ho => h.2.2 o x (hsub o x ho)⟩, rfl⟩
  exact ⟨⟨I.os, I.tape, I.output, I.size, I.frame, fun o x ho => (I.live o x (hsub o x ho)).mono hmo (fun _ _ => rfl) rfl (fun _ _ => rfl), fun o o' x x' b ho ho' => I.sep o o' x x' b (hsub o x ho) (hsub o' x' ho'), fun o x b ho => I.own o x b (hsub o x ho)⟩, hmo⟩
/-- New blocks, none of them an object. -/
theorem Inv.ext (I : Inv C m w hp) (hos : w'.os = w.os) (htape : w'.tape = w.tape) (hout : w'.output = w.output) (hsz : w.heap.size ≤ w'.heap.size)
    (hk : ∀ k, k < w.heap.size → w'.heap[k]? = w.heap[k]?) : Inv C m w' hp ∧ (∀ b, im C m w hp b → im C m w' hp b ∧ w'.heap[b]? = w.heap[b]?) := by
  have hmo : ∀ b, im C m w hp b → im C m w' hp b ∧ w'.heap[b]? = w.heap[b]? := fun b h => ⟨⟨Nat.lt_of_lt_of_le h.1 hsz, h.2⟩, hk b h.1⟩
  exact ⟨⟨hos.trans I.os, htape.trans I.tape, hout.trans I.output, Nat.le_trans I.size hsz, fun b h1 h2 => (hk b (Nat.lt_of_lt_of_le h1 I.size)).trans (I.frame b h1 h2),
    fun o x ho => (I.live o x ho).mono hmo (fun b hb => hk b ((I.live o x ho).blk_lt b hb)) rfl (fun _ _ => rfl), I.sep, I.own⟩, hmo⟩
/-- A block from the world's end on is nobody's. -/
theorem Inv.new_blk (I : Inv C m w hp) (hsub : ∀ o obj, hp1.get o = some obj → hp.get o = some obj) (b : Nat) (h : w.heap.size ≤ b) :
    (C.own0 b ∨ C.w0.heap.size ≤ b) ∧ ¬ im C m w hp b ∧ ∀ o obj, hp1.get o = some obj → blk (m o) ≠ some b :=
  ⟨.inr (Nat.le_trans I.size h), fun h' => by have := h'.1; omega, fun o x ho e => by have := (I.live o x (hsub o x ho)).blk_lt b e; omega⟩
end
end Go.Proofs.Ytlhhibhcoefolaa.Eng
