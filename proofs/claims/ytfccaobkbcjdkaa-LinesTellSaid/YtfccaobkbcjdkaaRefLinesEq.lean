/- The reference's places, as they are printed in plain Lean, are those of the model Lines. -/
import Derived.Test.YtfccaobkbcjdkaaQx6
import Derived.Test.YtfccaobkbcjdkaaQx5
import Derived.Test.YtfccaobkbcjdkaaLinesEq
import Derived.Test.YtfccaobkbcjdkaaRefEq
namespace Go.Proofs.Ytfccaobkbcjdkaa.RefLinesEq
open Go.RowKit Go.Proofs.YtfccaobkbcjdkaaW.PrintWords Go.Proofs.Ytfccaobkbcjdkaa.Base Go.Proofs.Ytfccaobkbcjdkaa.Utf Go.Proofs.Ytfccaobkbcjdkaa.UtfEq Go.Proofs.Ytfccaobkbcjdkaa.Lines Go.Proofs.Ytfccaobkbcjdkaa.LinesEq Go.Proofs.Ytfccaobkbcjdkaa.RefEq Go.Proofs.Ytfccaobkbcjdkaa.Q

/-- Does a line end behind a byte. -/
theorem ends_at (a : List Int) (c : Int) (t : List Int) (hl : ((a ++ c :: t).length : Int) ≤ 10000000000) : abridgerref1_ends.f (a ++ c :: t) (a.length : Int) = some (decide (brk c t)) := by
  have hl' := hl
  simp only [List.length_append, List.length_cons] at hl'
  unfold abridgerref1_ends.f
  rw [if_pos (by omega), if_pos (by simp only [List.length_append, List.length_cons]; omega), rd_append]
  by_cases h10 : c = 10
  · rw [if_pos h10, decide_eq_true (show brk c t from Or.inl h10)]
  rw [if_neg h10]
  by_cases h13 : c = 13
  · rw [if_pos h13, wrap64_in (by omega) (by omega)]
    rcases t with _ | ⟨d, t⟩
    · rw [if_pos (by simp), decide_eq_true (show brk c [] from Or.inr ⟨h13, by simp⟩)]
    · rw [if_neg (by simp only [List.length_append, List.length_cons]; omega), if_pos (by omega), if_pos (by simp only [List.length_append, List.length_cons]; omega)]
      have hrd : rd (a ++ c :: d :: t) ((a.length : Int) + 1) = d := by
        have := rd_append' a (c :: d :: t) 1
        simp only [rd] at this ⊢
        simp
      rw [hrd]
      by_cases hd : d = 10
      · rw [decide_eq_false (by unfold brk; simp [h10, hd]), hd]
        rfl
      · rw [decide_eq_true (show brk c (d :: t) from Or.inr ⟨h13, by simpa using hd⟩)]
        simpa using hd
  · rw [if_neg h13, decide_eq_false (by unfold brk; omega)]
/-- Bytes from 128 on end no line. -/
theorem skip (off : Nat) (s L : Int) (l : List Int) (hl : (l.length : Int) ≤ 10000000000) (R : Int × Int) (d : Nat) : ∀ i : Nat, (∀ j, i ≤ j → j < i + d → ∃ a c t, l = a ++ c :: t ∧ a.length = j ∧ 128 ≤ c) → i + d ≤ off →
    Evt (fun k => abridgerref1_At.l0 k l (off : Int) L s ((i + d : Nat) : Int)) R → Evt (fun k => abridgerref1_At.l0 k l (off : Int) L s (i : Int)) R := by
  induction d with
  | zero => intro i _ _ h; exact h
  | succ d ih =>
    intro i hi ho h
    obtain ⟨a, c, t, rfl, hj, hc⟩ := hi i (Nat.le_refl _) (by omega)
    have he := ends_at a c t hl
    rw [decide_eq_false (by unfold brk; omega), hj] at he
    have hlen := hl
    simp only [List.length_append, List.length_cons] at hlen
    refine Evt.succ ?_
    simp only [abridgerref1_At.l0, he, Option.bind_some, Bool.false_eq_true, if_false]
    rw [wrap64_in (n := (i : Int) + 1) (by omega) (by omega), show (i : Int) + 1 = ((i + 1 : Nat) : Int) by omega]
    refine Evt.pos (by omega) ?_
    exact ih (i + 1) (fun j h1 h2 => hi j (by omega) (by omega)) (by omega) (by rw [show i + 1 + d = i + (d + 1) by omega]; exact h)
theorem dec_multi {c : Int} {t : List Int} (hb : Bytes (c :: t)) {m : Nat} (hm : (dec (c :: t)).2.1 = (m : Int)) (h1 : 1 < m) : ∀ x ∈ (c :: t).take m, 128 ≤ x := by
  rcases hd : dec (c :: t) with ⟨r, n, ok⟩
  rw [hd] at hm
  simp only at hm
  cases ok with
  | false =>
    have := dec_false (by simp) (show (dec (c :: t)).2.2 = false by rw [hd])
    rw [hd] at this
    simp only [bad, Prod.mk.injEq] at this
    omega
  | true =>
    obtain ⟨hr, hn, t', ht⟩ := enc_dec hb hd
    have hl := @enc_size r
    rw [ht, show m = (enc r).length by omega, List.take_left]
    have hsz : size r ≠ 1 := by omega
    unfold isCp at hr
    unfold size at hsz
    intro x hx
    unfold enc at hx
    (repeat' split at hx) <;> simp only [List.mem_cons, List.not_mem_nil, or_false] at hx
    · rw [if_pos (by assumption)] at hsz
      omega
    · rcases hx with rfl | rfl <;> omega
    · rcases hx with rfl | rfl | rfl <;> omega
    · rcases hx with rfl | rfl | rfl | rfl <;> omega
/-- A code point of one byte ends a line just if the byte does. -/
theorem dec_single {c : Int} {t : List Int} (hb : Bytes (c :: t)) : brk (dec (c :: t)).1 t ↔ brk c t := by
  have hc := hb.head
  by_cases h : c < 128
  · have : dec (c :: t) = (c, 1, true) := by simp only [dec, if_pos h]
    rw [this]
  · have h1 : ¬ brk c t := by unfold brk; omega
    refine iff_of_false (fun hk => ?_) h1
    have hr : (dec (c :: t)).1 < 128 := by unfold brk at hk; omega
    rcases hd : dec (c :: t) with ⟨r, n, ok⟩
    rw [hd] at hr
    simp only at hr
    cases ok with
    | false =>
      have := dec_false (by simp) (show (dec (c :: t)).2.2 = false by rw [hd])
      rw [hd] at this
      simp only [bad, Prod.mk.injEq] at this
      omega
    | true =>
      obtain ⟨_, _, t', ht⟩ := enc_dec hb hd
      unfold enc at ht
      rw [if_pos hr] at ht
      simp only [List.cons_append, List.nil_append, List.cons.injEq] at ht
      omega
/-- From the beginning of a code point on. -/
theorem ref_l0 (off : Nat) (n : Nat) : ∀ (t a : List Int) (p : Int × Int) (s : Int), t.length ≤ n → Bytes (a ++ t) → ((a ++ t).length : Int) ≤ 10000000000 → a.length ≤ off → off ≤ (a ++ t).length →
    (0 ≤ p.1 ∧ p.1 ≤ (a.length : Int) ∧ 0 ≤ p.2 ∧ p.2 ≤ 2 * (a.length : Int)) →
    (∀ L R, Evt (fun k => abridgerref1_At.l1 k (a ++ t) (off : Int) L p.2 (a.length : Int)) R → Evt (fun k => abridgerref1_At.l1 k (a ++ t) (off : Int) L 0 s) R) →
    Evt (fun k => abridgerref1_At.l0 k (a ++ t) (off : Int) p.1 s (a.length : Int)) (at_ n t (off - a.length) p) := by
  -- where the place is reached
  have done : ∀ (l a : List Int) (p : Int × Int) (s : Int), a.length = off → (∀ L R, Evt (fun k => abridgerref1_At.l1 k l (off : Int) L p.2 (a.length : Int)) R → Evt (fun k => abridgerref1_At.l1 k l (off : Int) L 0 s) R) →
      Evt (fun k => abridgerref1_At.l0 k l (off : Int) p.1 s (a.length : Int)) p := by
    intro l a p s ha hw
    refine Evt.succ ?_
    simp only [abridgerref1_At.l0]
    refine Evt.neg (by omega) (hw _ _ (Evt.succ ?_))
    simp only [abridgerref1_At.l1]
    exact Evt.neg (by omega) (Evt.const _)
  induction n with
  | zero =>
    intro t a p s hn hb hl h1 h2 hp hw
    have : t = [] := List.length_eq_zero_iff.1 (by omega)
    subst this
    rw [List.append_nil] at h2
    exact done _ a p s (by omega) hw
  | succ n ih =>
    intro t a p s hn hb hl h1 h2 hp hw
    by_cases h0 : off - a.length = 0
    · rw [h0, at_zero]
      exact done _ a p s (by omega) hw
    have hlen : (a ++ t).length = a.length + t.length := List.length_append
    have ht : t ≠ [] := by
      rintro rfl
      simp at h2
      omega
    have hdl := dec_len hb.right ht
    have hnx := ref_next_ev (a ++ t) hb (by omega) (a.length : Int)
    rw [nx_at] at hnx
    obtain ⟨m, hm⟩ := Int.eq_ofNat_of_zero_le (show 0 ≤ (dec t).2.1 by omega)
    have hm' : (dec t).2.1 = (m : Int) := hm
    have hu := units_range (dec t).1
    -- one code point of the second loop
    have one : ∀ L R, Evt (fun k => abridgerref1_At.l1 k (a ++ t) (off : Int) L (p.2 + units (dec t).1) ((a.length + m : Nat) : Int)) R → Evt (fun k => abridgerref1_At.l1 k (a ++ t) (off : Int) L 0 s) R := by
      intro L R h
      refine hw L R (Evt.succ ?_)
      simp only [abridgerref1_At.l1, ref_units_eq, Option.bind_some]
      refine Evt.pos (by omega) (Evt.bind hnx ?_)
      change Evt (fun k => abridgerref1_At.l1 k (a ++ t) (off : Int) L (wrap64 (p.2 + units (dec t).1)) (wrap64 ((a.length : Int) + (dec t).2.1))) R
      rw [wrap64_in (by omega) (by omega), wrap64_in (by omega) (by omega), show (a.length : Int) + (dec t).2.1 = ((a.length + m : Nat) : Int) by omega]
      exact h
    have hpos : ∀ j, a.length ≤ j → j < a.length + m → ∃ b c u, a ++ t = b ++ c :: u ∧ b.length = j ∧ c ∈ t.take m := by
      intro j hj1 hj2
      have hjl : j - a.length < t.length := by omega
      refine ⟨a ++ t.take (j - a.length), t[j - a.length], t.drop (j - a.length + 1), ?_, ?_, ?_⟩
      · rw [List.append_assoc, ← List.drop_eq_getElem_cons hjl, List.take_append_drop]
      · rw [List.length_append, List.length_take]
        omega
      · rw [List.mem_take_iff_getElem]
        exact ⟨j - a.length, by omega, rfl⟩
    by_cases hin : off - a.length < m
    · -- within the code point
      rw [at_in p h0 ht (by omega)]
      obtain ⟨c, u, rfl⟩ : ∃ c u, t = c :: u := by cases t with | nil => exact absurd rfl ht | cons c u => exact ⟨c, u, rfl⟩
      have hmulti := dec_multi hb.right hm' (by omega)
      refine skip off s p.1 _ hl _ (off - a.length) a.length (fun j hj1 hj2 => ?_) (by omega) ?_
      · obtain ⟨b, x, v, g1, g2, g3⟩ := hpos j hj1 (by omega)
        exact ⟨b, x, v, g1, g2, hmulti x g3⟩
      · refine Evt.succ ?_
        simp only [abridgerref1_At.l0]
        refine Evt.neg (by omega) (one _ _ (Evt.succ ?_))
        simp only [abridgerref1_At.l1]
        exact Evt.neg (by omega) (Evt.const _)
    · rw [at_out p h0 ht (by omega)]
      have hmN : (dec t).2.1.toNat = m := by omega
      rw [hmN]
      have hat : a ++ t = (a ++ t.take m) ++ t.drop m := by rw [List.append_assoc, List.take_append_drop]
      have hac : (a ++ t.take m).length = a.length + m := by rw [List.length_append, List.length_take]; omega
      have hsr := @stp_range p (dec t).1 (t.drop m) (a.length : Int) hp
      have rest : ∀ s', (∀ L R, Evt (fun k => abridgerref1_At.l1 k (a ++ t) (off : Int) L (stp p (dec t).1 (t.drop m)).2 ((a.length + m : Nat) : Int)) R → Evt (fun k => abridgerref1_At.l1 k (a ++ t) (off : Int) L 0 s') R) →
          Evt (fun k => abridgerref1_At.l0 k (a ++ t) (off : Int) (stp p (dec t).1 (t.drop m)).1 s' ((a.length + m : Nat) : Int)) (at_ n (t.drop m) (off - a.length - m) (stp p (dec t).1 (t.drop m))) := by
        intro s' hw'
        have := ih (t.drop m) (a ++ t.take m) (stp p (dec t).1 (t.drop m)) s' (by rw [List.length_drop]; omega) (by rw [← hat]; exact hb) (by rw [← hat]; exact hl) (by omega) (by rw [← hat]; exact h2) (by rw [hac]; omega) (by rw [← hat, hac]; exact hw')
        rw [← hat, hac, show off - (a.length + m) = off - a.length - m by omega] at this
        exact this
      obtain ⟨c, u, rfl⟩ : ∃ c u, t = c :: u := by cases t with | nil => exact absurd rfl ht | cons c u => exact ⟨c, u, rfl⟩
      by_cases hm1 : m = 1
      · subst hm1
        have hsing := dec_single hb.right
        have he := ends_at a c u hl
        refine Evt.succ ?_
        simp only [abridgerref1_At.l0, he, Option.bind_some]
        rw [wrap64_in (n := (a.length : Int) + 1) (by omega) (by omega), wrap64_in (n := p.1 + 1) (by omega) (by omega)]
        refine Evt.pos (by omega) ?_
        simp only [List.drop_succ_cons, List.drop_zero] at rest ⊢
        by_cases hk : brk c u
        · rw [decide_eq_true hk]
          have hst : stp p (dec (c :: u)).1 u = (p.1 + 1, 0) := if_pos (hsing.2 hk)
          rw [hst] at rest ⊢
          refine Evt.pos rfl ?_
          have := rest ((a.length : Int) + 1) (fun L R h => by rw [show ((a.length + 1 : Nat) : Int) = (a.length : Int) + 1 by omega] at h; exact h)
          rw [show ((a.length + 1 : Nat) : Int) = (a.length : Int) + 1 by omega] at this
          exact this
        · rw [decide_eq_false hk]
          have hst : stp p (dec (c :: u)).1 u = (p.1, p.2 + units (dec (c :: u)).1) := if_neg (fun h => hk (hsing.1 h))
          rw [hst] at rest ⊢
          refine Evt.neg (by decide) ?_
          have := rest s one
          rw [show ((a.length + 1 : Nat) : Int) = (a.length : Int) + 1 by omega] at this
          exact this
      · have hmulti := dec_multi hb.right hm' (by omega)
        have hnb : ¬ brk (dec (c :: u)).1 ((c :: u).drop m) := fun hk => by
          have := brk_one hb.right (by simp) hk
          omega
        have hst : stp p (dec (c :: u)).1 ((c :: u).drop m) = (p.1, p.2 + units (dec (c :: u)).1) := if_neg hnb
        rw [hst] at rest ⊢
        refine skip off s p.1 _ hl _ m a.length (fun j hj1 hj2 => ?_) (by omega) (rest s one)
        obtain ⟨b, x, v, g1, g2, g3⟩ := hpos j hj1 hj2
        exact ⟨b, x, v, g1, g2, hmulti x g3⟩
theorem cap_eq (l : List Int) (off : Int) : abridgerref1_Cap.f off 0 (l.length : Int) = some (clip l off : Int) := by
  unfold abridgerref1_Cap.f clip
  by_cases h1 : off < 0
  · rw [if_pos h1]
    congr 1
    omega
  · rw [if_neg h1]
    by_cases h2 : off > (l.length : Int)
    · rw [if_pos h2]
      congr 1
      omega
    · rw [if_neg h2]
      congr 1
      omega
theorem ref_at_ev (l : List Int) (hb : Bytes l) (hl : l.length ≤ 10000000000) (off : Int) : Evt (fun k => abridgerref1_At.f k l off) (place l (clip l off)) := by
  simp only [abridgerref1_At.f, cap_eq, Option.bind_some]
  have := ref_l0 (clip l off) l.length l [] (0, 0) 0 (Nat.le_refl _) hb (by simp only [List.nil_append]; omega) (by simp) (clip_le l off) (by simp) (fun L R h => h)
  exact this
theorem ref_count_ev (l : List Int) (hb : Bytes l) (hl : l.length ≤ 10000000000) : Evt (fun k => abridgerref1_Count.f k l) ((place l l.length).1 + 1) := by
  have h1 := ref_at_ev l hb hl (l.length : Int)
  have e : clip l (l.length : Int) = l.length := by unfold clip; omega
  rw [e] at h1
  have hr := place_range l hb l.length
  simp only [abridgerref1_Count.f]
  refine Evt.bind h1 ?_
  rw [wrap64_in (by omega) (by omega)]
  exact Evt.const _
/-- From the end on, the first place that is the one sought. -/
theorem ref_back_l0 (l : List Int) (hb : Bytes l) (hl : l.length ≤ 10000000000) (q : Int × Int) (d : Nat) : ∀ (R : Int × Bool), d ≤ l.length + 1 → ((∃ j, j < d ∧ place l j = q ∧ (∀ m, j < m → m < d → place l m ≠ q) ∧ R = ((j : Int), true)) ∨ ((∀ m, m < d → place l m ≠ q) ∧ R = (0, false))) →
    Evt (fun k => abridgerref1_Back.l0 k l q.1 q.2 ((d : Int) - 1)) R := by
  induction d with
  | zero =>
    intro R _ h
    rcases h with ⟨j, h1, _⟩ | ⟨_, rfl⟩
    · omega
    · refine Evt.succ ?_
      simp only [abridgerref1_Back.l0]
      exact Evt.neg (by omega) (Evt.const _)
  | succ d ih =>
    intro R hd h
    have h1 := ref_at_ev l hb hl ((d : Int))
    have e : clip l (d : Int) = d := by unfold clip; omega
    rw [e] at h1
    refine Evt.succ ?_
    simp only [abridgerref1_Back.l0]
    rw [show ((d + 1 : Nat) : Int) - 1 = (d : Int) by omega, wrap64_in (n := (d : Int) - 1) (by omega) (by omega)]
    refine Evt.pos (by omega) (Evt.bind h1 ?_)
    by_cases hq : place l d = q
    · have hR : R = ((d : Int), true) := by
        rcases h with ⟨j, g1, g2, g3, g4⟩ | ⟨g1, _⟩
        · by_cases hj : j = d
          · rw [g4, hj]
          · exact absurd hq (g3 d (by omega) (by omega))
        · exact absurd hq (g1 d (by omega))
      rw [hR]
      exact Evt.pos (by rw [hq]) (Evt.pos (by rw [hq]) (Evt.const _))
    · have hnext : Evt (fun k => abridgerref1_Back.l0 k l q.1 q.2 ((d : Int) - 1)) R := by
        refine ih R (by omega) ?_
        rcases h with ⟨j, g1, g2, g3, g4⟩ | ⟨g1, g2⟩
        · left
          have : j ≠ d := fun h => hq (by rw [← h]; exact g2)
          exact ⟨j, by omega, g2, fun m hm hm2 => g3 m hm (by omega), g4⟩
        · right
          exact ⟨fun m hm => g1 m (by omega), g2⟩
      by_cases hq1 : (place l d).1 = q.1
      · exact Evt.pos hq1 (Evt.neg (fun h2 => hq (Prod.ext hq1 h2)) hnext)
      · exact Evt.neg hq1 hnext
theorem ref_back_ev (l : List Int) (hb : Bytes l) (hl : l.length ≤ 10000000000) (q : Int × Int) : Evt (fun k => abridgerref1_Back.f k l q.1 q.2) (lastAt (place l) q (l.length + 1) 0 (0, false)) := by
  simp only [abridgerref1_Back.f]
  have := ref_back_l0 l hb hl q (l.length + 1) (lastAt (place l) q (l.length + 1) 0 (0, false)) (Nat.le_refl _) (by
    rcases lastAt_tells (place l) q (l.length + 1) 0 (0, false) with ⟨j, _, g2, g3, g4, g5⟩ | ⟨g1, g2⟩
    · left
      exact ⟨j, by omega, g3, fun m hm hm2 => g4 m hm (by omega), g5⟩
    · right
      exact ⟨fun m hm => g1 m (by omega) (by omega), g2⟩)
  rw [show ((l.length + 1 : Nat) : Int) - 1 = (l.length : Int) by omega] at this
  exact this
end Go.Proofs.Ytfccaobkbcjdkaa.RefLinesEq
