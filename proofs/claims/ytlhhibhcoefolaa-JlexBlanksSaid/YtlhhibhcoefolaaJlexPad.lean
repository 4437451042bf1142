/- Other blanks between tokens, in plain Lean. No program stands here. -/
import Derived.Test.YtlhhibhcoefolaaJlex
namespace Go.Proofs.Ytlhhibhcoefolaa.Jlex
open Go.RowKit Go.Proofs.YtlhhibhcoefolaaW.PrintWords Go.Proofs.Ytlhhibhcoefolaa.Base Go.Proofs.Ytlhhibhcoefolaa.Utf Go.Proofs.Ytlhhibhcoefolaa.Jstr
set_option linter.unusedSimpArgs false
set_option linter.unusedVariables false

theorem sep_ne {s : Int} (h : go s = false) : dig s = false ∧ s ≠ 101 ∧ s ≠ 69 ∧ s ≠ 46 ∧ s ≠ 48 ∧ s ≠ 45 ∧ s ≠ 43 := by
  unfold go at h
  unfold dig
  simp only [decide_eq_false_iff_not] at *
  omega
theorem dl_sep {s : Int} (hs : go s = false) (u b : List Int) : dl (u ++ s :: b) = dl u := by
  unfold dl
  induction u with
  | nil => rw [List.nil_append, List.takeWhile_cons_of_neg (by rw [(sep_ne hs).1]; exact Bool.false_ne_true)]; rfl
  | cons c u ih =>
    rw [List.cons_append]
    by_cases h : dig c = true
    · rw [List.takeWhile_cons_of_pos h, List.takeWhile_cons_of_pos h, List.length_cons, List.length_cons, ih]
    · rw [List.takeWhile_cons_of_neg h, List.takeWhile_cons_of_neg h]
theorem goes_sep {s : Int} (hs : go s = false) (u b : List Int) : goes (u ++ s :: b) = goes u := by
  cases u with
  | nil => exact hs
  | cons c u => rfl
theorem drop_sep {u s : List Int} {n : Nat} (h : n ≤ u.length) : (u ++ s).drop n = u.drop n ++ s := by
  rw [List.drop_append_of_le_length h]
theorem nE3_sep {s : Int} (hs : go s = false) (u b : List Int) : nE3 (u ++ s :: b) = nE3 u := by
  unfold nE3
  rw [dl_sep hs, drop_sep (dl_le u), goes_sep hs]
theorem nE2_sep {s : Int} (hs : go s = false) (u b : List Int) : nE2 (u ++ s :: b) = nE2 u := by
  obtain ⟨h1, h2, h3, h4, h5, h6, h7⟩ := sep_ne hs
  cases u with
  | nil =>
    rw [List.nil_append]
    simp only [nE2, if_neg (show ¬ (s = 101 ∨ s = 69) from fun h => h.elim h2 h3), hs, Bool.false_eq_true, if_false]
  | cons c t =>
    rw [List.cons_append]
    unfold nE2
    by_cases h : c = 101 ∨ c = 69
    · simp only [if_pos h]
      cases t with
      | nil =>
        show (if s = 43 ∨ s = 45 then (nE3 b).map (· + 2) else (nE3 (s :: b)).map (· + 1)) = none
        rw [if_neg (fun h => h.elim h7 h6)]
        have := nE3_sep hs [] b
        rw [List.nil_append] at this
        rw [this]
        rfl
      | cons x t =>
        show (if x = 43 ∨ x = 45 then (nE3 (t ++ s :: b)).map (· + 2) else (nE3 ((x :: t) ++ s :: b)).map (· + 1)) = _
        rw [nE3_sep hs, nE3_sep hs]
    · simp only [if_neg h]
theorem nE1_sep {s : Int} (hs : go s = false) (u b : List Int) : nE1 (u ++ s :: b) = nE1 u := by
  obtain ⟨h1, h2, h3, h4, h5, h6, h7⟩ := sep_ne hs
  cases u with
  | nil =>
    have := nE2_sep hs [] b
    rw [List.nil_append] at this ⊢
    simp only [nE1, if_neg h4]
    exact this
  | cons c t =>
    have q2 := nE2_sep hs (c :: t) b
    rw [List.cons_append] at q2 ⊢
    unfold nE1
    by_cases h : c = 46
    · simp only [if_pos h]
      rw [dl_sep hs, drop_sep (dl_le t), nE2_sep hs]
    · simp only [if_neg h]
      exact q2
theorem nE0_sep {s : Int} (hs : go s = false) (u b : List Int) : nE0 (u ++ s :: b) = nE0 u := by
  obtain ⟨h1, h2, h3, h4, h5, h6, h7⟩ := sep_ne hs
  cases u with
  | nil =>
    have := dl_sep hs [] b
    rw [List.nil_append] at this ⊢
    simp only [nE0, if_neg h5]
    rw [this]
    rfl
  | cons c t =>
    have q2 := dl_sep hs (c :: t) b
    have q3 := drop_sep (s := s :: b) (dl_le (c :: t))
    rw [List.cons_append] at q2 q3 ⊢
    unfold nE0
    by_cases h : c = 48
    · simp only [if_pos h]
      rw [nE1_sep hs]
    · simp only [if_neg h]
      rw [q2, q3, nE1_sep hs]
theorem numLen_sep {s : Int} (hs : go s = false) (u b : List Int) : numLen (u ++ s :: b) = numLen u := by
  obtain ⟨h1, h2, h3, h4, h5, h6, h7⟩ := sep_ne hs
  cases u with
  | nil =>
    have := nE0_sep hs [] b
    rw [List.nil_append] at this ⊢
    simp only [numLen, if_neg h6]
    rw [this]
    rfl
  | cons c t =>
    have q2 := nE0_sep hs (c :: t) b
    rw [List.cons_append] at q2 ⊢
    unfold numLen
    by_cases h : c = 45
    · simp only [if_pos h]
      rw [nE0_sep hs]
    · simp only [if_neg h]
      exact q2
theorem nE3_end {u : List Int} {n : Nat} (h : nE3 u = some n) : goes (u.drop n) = false := by
  unfold nE3 at h
  split at h
  · simp at h
  · split at h
    · simp at h
    · rename_i h2
      simp only [Option.some.injEq] at h
      rw [← h]
      exact Bool.eq_false_iff.2 h2
theorem nE2_end {u : List Int} {n : Nat} (h : nE2 u = some n) : goes (u.drop n) = false := by
  unfold nE2 at h
  split at h
  · rw [List.drop_nil]; rfl
  · split at h
    · split at h
      · simp at h
      · split at h
        · obtain ⟨m, h1, rfl⟩ := map_some h
          have h9 := nE3_end h1
          exact h9
        · obtain ⟨m, h1, rfl⟩ := map_some h
          have h9 := nE3_end h1
          exact h9
    · split at h
      · simp at h
      · rename_i c t _ h2
        simp only [Option.some.injEq] at h
        rw [← h]
        exact Bool.eq_false_iff.2 h2
theorem nE1_end {u : List Int} {n : Nat} (h : nE1 u = some n) : goes (u.drop n) = false := by
  unfold nE1 at h
  split at h
  · exact nE2_end h
  · split at h
    · split at h
      · simp at h
      · obtain ⟨m, h1, rfl⟩ := map_some h
        have := nE2_end h1
        rw [List.drop_drop] at this
        rename_i c t _ _
        rw [show m + (1 + dl t) = (dl t + m) + 1 by omega, List.drop_succ_cons]
        exact this
    · exact nE2_end h
theorem nE0_end {u : List Int} {n : Nat} (h : nE0 u = some n) : goes (u.drop n) = false := by
  unfold nE0 at h
  split at h
  · simp at h
  · split at h
    · obtain ⟨m, h1, rfl⟩ := map_some h
      have h9 := nE1_end h1
      exact h9
    · split at h
      · simp at h
      · obtain ⟨m, h1, rfl⟩ := map_some h
        have := nE1_end h1
        rw [List.drop_drop] at this
        rename_i c t _ _
        rw [show m + dl (c :: t) = dl (c :: t) + m by omega]
        exact this
theorem numLen_end {u : List Int} {n : Nat} (h : numLen u = some n) : goes (u.drop n) = false := by
  unfold numLen at h
  split at h
  · simp at h
  · split at h
    · obtain ⟨m, h1, rfl⟩ := map_some h
      have h9 := nE0_end h1
      exact h9
    · exact nE0_end h
/-- What stands behind a text does not matter. -/
theorem textLen_pre (r0 r : List Int) : ∀ (m : Nat) (u : List Int), u.length ≤ m → textLen (u ++ r0) = some u.length → textLen (u ++ r) = some u.length := by
  intro m
  induction m with
  | zero =>
    intro u hm h
    obtain rfl : u = [] := List.length_eq_zero_iff.1 (by omega)
    have := (textLen_le _ _ (Nat.le_refl _) h).1
    simp at this
  | succ m ih =>
    intro u hm h
    rcases u with _ | ⟨c, _ | ⟨d, t⟩⟩
    · have := (textLen_le _ _ (Nat.le_refl _) h).1
      simp at this
    · rw [List.cons_append, List.nil_append] at h ⊢
      by_cases c1 : c = 34
      · cases r with
        | nil => simp only [textLen, if_pos c1]; rfl
        | cons x r => rw [textLen_cons, if_pos c1]; rfl
      · exfalso
        cases r0 with
        | nil => simp [textLen, c1] at h
        | cons d t =>
          rw [textLen_cons, if_neg c1] at h
          simp only [List.length_cons, List.length_nil] at h
          split at h
          · simp at h
          split at h
          · split at h
            · split at h
              · split at h
                · obtain ⟨k, h1, h2⟩ := map_some h; omega
                · simp at h
              · simp at h
            · split at h
              · obtain ⟨k, h1, h2⟩ := map_some h; omega
              · simp at h
          · obtain ⟨k, h1, h2⟩ := map_some h
            have := (textLen_le _ _ (Nat.le_refl _) h1).1
            omega
    · simp only [List.length_cons] at hm
      rw [List.cons_append, List.cons_append, textLen_cons] at h ⊢
      simp only [List.length_cons] at h ⊢
      by_cases c1 : c = 34
      · rw [if_pos c1] at h
        simp at h
      rw [if_neg c1] at h ⊢
      by_cases c2 : c < 32
      · rw [if_pos c2] at h
        simp at h
      rw [if_neg c2] at h ⊢
      by_cases c3 : c = 92
      · rw [if_pos c3] at h ⊢
        by_cases c4 : d = 117
        · rw [if_pos c4] at h ⊢
          rcases t with _ | ⟨p, _ | ⟨q, _ | ⟨x, _ | ⟨y, t⟩⟩⟩⟩
          · exfalso
            split at h
            · split at h
              · obtain ⟨k, h1, h2⟩ := map_some h; simp only [List.length_nil] at h2; omega
              · simp at h
            · simp at h
          · exfalso
            split at h
            · split at h
              · obtain ⟨k, h1, h2⟩ := map_some h; simp only [List.length_cons, List.length_nil] at h2; omega
              · simp at h
            · simp at h
          · exfalso
            split at h
            · split at h
              · obtain ⟨k, h1, h2⟩ := map_some h; simp only [List.length_cons, List.length_nil] at h2; omega
              · simp at h
            · simp at h
          · exfalso
            split at h
            · split at h
              · obtain ⟨k, h1, h2⟩ := map_some h; simp only [List.length_cons, List.length_nil] at h2; omega
              · simp at h
            · simp at h
          · simp only [List.cons_append] at h ⊢
            split at h
            · rename_i h4
              rw [if_pos h4]
              obtain ⟨k, h1, h2⟩ := map_some h
              simp only [List.length_cons] at h2 hm ⊢
              rw [ih t (by omega) (by rw [h1]; congr 1; omega)]
              rfl
            · simp at h
        · rw [if_neg c4] at h ⊢
          by_cases c5 : esc d
          · rw [if_pos c5] at h ⊢
            obtain ⟨k, h1, h2⟩ := map_some h
            rw [ih t (by omega) (by rw [h1]; congr 1; omega)]
            rfl
          · rw [if_neg c5] at h
            simp at h
      · rw [if_neg c3] at h ⊢
        obtain ⟨k, h1, h2⟩ := map_some h
        have := ih (d :: t) (by simp only [List.length_cons]; omega) (by rw [List.cons_append, h1, List.length_cons]; congr 1; omega)
        rw [List.cons_append] at this
        rw [this]
        rfl
theorem numLen_move {u r0 r : List Int} (h : numLen (u ++ r0) = some u.length) (hr : goes r = false) : numLen (u ++ r) = some u.length := by
  have h1 : numLen u = some u.length := by
    rcases r0 with _ | ⟨s, b⟩
    · rwa [List.append_nil] at h
    · have := numLen_end h
      rw [List.drop_left] at this
      rwa [numLen_sep this] at h
  rcases r with _ | ⟨s, b⟩
  · rwa [List.append_nil]
  · rw [numLen_sep (show go s = false from hr)]; exact h1
theorem wordTok_move {u r0 r : List Int} {k : Int} (h : wordTok (u ++ r0) = (k, some u.length)) (hr : goes r = false) : wordTok (u ++ r) = (k, some u.length) := by
  unfold wordTok at h
  split at h
  · rename_i hc
    simp only [Prod.mk.injEq, Option.some.injEq] at h
    have := hc.1
    rw [h.2, List.take_left] at this
    subst this
    obtain ⟨rfl, -⟩ := h
    unfold wordTok
    rw [if_pos (by simpa using hr)]; rfl
  split at h
  · rename_i hc
    simp only [Prod.mk.injEq, Option.some.injEq] at h
    have := hc.1
    rw [h.2, List.take_left] at this
    subst this
    obtain ⟨rfl, -⟩ := h
    unfold wordTok
    rw [if_neg (by simp), if_pos (by simpa using hr)]; rfl
  split at h
  · rename_i hc
    simp only [Prod.mk.injEq, Option.some.injEq] at h
    have := hc.1
    rw [h.2, List.take_left] at this
    subst this
    obtain ⟨rfl, -⟩ := h
    unfold wordTok
    rw [if_neg (by simp), if_neg (by simp), if_pos (by simpa using hr)]; rfl
  · simp at h
theorem sign_range {c k : Int} (h : sign c = some k) : 1 ≤ k ∧ k ≤ 6 ∧ go c = false ∧ blk c = false := by
  unfold sign at h
  unfold go blk
  simp only [decide_eq_false_iff_not]
  (repeat' split at h) <;> simp only [Option.some.injEq, reduceCtorEq] at h <;> omega
/-- A token is one wherever it stands. -/
theorem tok_move {w r0 r : List Int} {k : Int} (hw : w ≠ []) (h : tok (w ++ r0) = (k, some w.length)) (hr : k ≤ 7 ∨ goes r = false) : tok (w ++ r) = (k, some w.length) := by
  rcases w with _ | ⟨c, t⟩
  · exact absurd rfl hw
  rw [List.cons_append] at h ⊢
  unfold tok at h ⊢
  rcases hs : sign c with _ | j
  · simp only [hs] at h ⊢
    by_cases c1 : c = 34
    · rw [if_pos c1] at h ⊢
      simp only [Prod.mk.injEq] at h
      obtain ⟨m, h1, h2⟩ := map_some h.2
      rw [List.length_cons] at h2
      rw [textLen_pre r0 r _ t (Nat.le_refl _) (by rw [h1]; congr 1; omega), ← h.1]
      rfl
    rw [if_neg c1] at h ⊢
    by_cases c2 : c = 45 ∨ dig c = true
    · rw [if_pos c2] at h ⊢
      simp only [Prod.mk.injEq] at h
      have hg : goes r = false := by
        rcases hr with hr | hr
        · omega
        · exact hr
      rw [← List.cons_append] at h ⊢
      rw [numLen_move h.2 hg, h.1]
    rw [if_neg c2] at h ⊢
    have hg : goes r = false := by
      rcases hr with hr | hr
      · exfalso
        unfold wordTok at h
        (repeat' split at h) <;> simp only [Prod.mk.injEq, reduceCtorEq, and_false] at h <;> omega
      · exact hr
    rw [← List.cons_append] at h ⊢
    exact wordTok_move h hg
  · simp only [hs] at h ⊢
    exact h
theorem tok_kind {c : Int} {t : List Int} {k : Int} {n : Nat} (h : tok (c :: t) = (k, some n)) : 1 ≤ k ∧ k ≤ 11 ∧ (k < 7 → go c = false) ∧ (0 ≤ c ∧ c < 128) := by
  unfold tok at h
  rcases hs : sign c with _ | j
  · simp only [hs] at h
    by_cases c1 : c = 34
    · rw [if_pos c1] at h
      simp only [Prod.mk.injEq] at h
      omega
    rw [if_neg c1] at h
    by_cases c2 : c = 45 ∨ dig c = true
    · rw [if_pos c2] at h
      simp only [Prod.mk.injEq] at h
      unfold dig at c2
      simp only [decide_eq_true_eq] at c2
      omega
    rw [if_neg c2] at h
    unfold wordTok at h
    split at h
    · rename_i hc
      simp only [Prod.mk.injEq] at h
      have := hc.1
      simp only [List.take_succ_cons, List.cons.injEq] at this
      omega
    split at h
    · rename_i hc
      simp only [Prod.mk.injEq] at h
      have := hc.1
      simp only [List.take_succ_cons, List.cons.injEq] at this
      omega
    split at h
    · rename_i hc
      simp only [Prod.mk.injEq] at h
      have := hc.1
      simp only [List.take_succ_cons, List.cons.injEq] at this
      omega
    · simp at h
  · simp only [hs] at h
    have := sign_range hs
    simp only [Prod.mk.injEq] at h
    refine ⟨by omega, by omega, fun _ => this.2.2.1, ?_⟩
    unfold sign at hs
    (repeat' split at hs) <;> simp only [Option.some.injEq, reduceCtorEq] at hs <;> omega
/-- The bytes of a token. -/
def slice (b : List Int) (x : Int × Int × Int) : List Int := (b.drop x.2.1.toNat).take (x.2.2 - x.2.1).toNat
/-- The tokens again, with other blanks between. -/
def padded (b : List Int) : List (Int × Int × Int) → List (List Int) → List Int
  | [], p :: _ => p
  | x :: ts, p :: ps => p ++ (slice b x ++ padded b ts ps)
  | _, [] => []
def moved : List (Int × Int × Int) → List (List Int) → Int → List (Int × Int × Int)
  | x :: ts, p :: ps, j => (x.1, j + p.length, j + p.length + (x.2.2 - x.2.1)) :: moved ts ps (j + p.length + (x.2.2 - x.2.1))
  | _, _, _ => []
/-- Blanks, and some where two would grow together. -/
def goodP : List (Int × Int × Int) → List (List Int) → Prop
  | [], p :: _ => ∀ x ∈ p, blk x = true
  | [_], p :: q :: _ => (∀ x ∈ p, blk x = true) ∧ ∀ x ∈ q, blk x = true
  | x :: y :: ts, p :: q :: ps => (∀ x ∈ p, blk x = true) ∧ (q = [] → x.1 < 7 ∨ y.1 < 7) ∧ goodP (y :: ts) (q :: ps)
  | _, _ => False
theorem goes_blank {p r : List Int} (hp : ∀ x ∈ p, blk x = true) (h : p ≠ []) : goes (p ++ r) = false := by
  rcases p with _ | ⟨c, p⟩
  · exact absurd rfl h
  · have := hp c List.mem_cons_self
    show go c = false
    unfold blk at this
    unfold go
    simp only [decide_eq_true_eq, decide_eq_false_iff_not] at *
    omega
theorem toks_pad (b : List Int) {l : List Int} {i : Int} {ts : List (Int × Int × Int)} {e : Option Int} (h : Toks l i ts e) : e = none → ∀ pre, b = pre ++ l → i = pre.length → ∀ (ps : List (List Int)) (j : Int), goodP ts ps → Toks (padded b ts ps) j (moved ts ps j) none ∧ (∀ x ts', ts = x :: ts' → x.1 < 7 → ∀ r, goes (slice b x ++ r) = false) := by
  induction h with
  | @nil b0 i hb =>
    intro _ pre hpre hi ps j hg
    refine ⟨?_, fun x ts' h => by simp at h⟩
    rcases ps with _ | ⟨p, ps⟩
    · exact hg.elim
    · have := Toks.nil (i := j) hg
      exact this
  | bad => intro h; simp at h
  | @cons b0 c t i k n ts e hb hc ht hr ih =>
    intro he pre hpre hi ps j hg
    have hn := tok_le ht
    have hsl : slice b (k, i + (b0.length : Int), i + (b0.length : Int) + (n : Int)) = (c :: t).take n := by
      unfold slice
      simp only
      rw [hpre, ← List.append_assoc, show (i + (b0.length : Int)).toNat = (pre ++ b0).length by rw [List.length_append]; omega, List.drop_left, show (i + (b0.length : Int) + (n : Int) - (i + (b0.length : Int))).toNat = n by omega]
    have hlen : ((c :: t).take n).length = n := by rw [List.length_take]; omega
    have hne : (c :: t).take n ≠ [] := fun h => by rw [h] at hlen; simp at hlen; omega
    obtain ⟨m, hm⟩ : ∃ m, n = m + 1 := ⟨n - 1, by omega⟩
    have hcons : (c :: t).take n = c :: t.take m := by rw [hm, List.take_succ_cons]
    have htk := tok_kind ht
    have hstart : k < 7 → ∀ r, goes ((c :: t).take n ++ r) = false := fun hk r => by
      rw [hcons]; exact htk.2.2.1 hk
    refine ⟨?_, fun x ts' h hx r => by cases h; rw [hsl]; exact hstart hx r⟩
    have hrest := ih he (pre ++ (b0 ++ (c :: t).take n)) (by rw [hpre, List.append_assoc, List.append_assoc, List.take_append_drop]) (by rw [List.length_append, List.length_append, hlen]; omega)
    rcases ps with _ | ⟨p, ps⟩
    · exact absurd hg (by cases ts <;> exact id)
    have hp : ∀ x ∈ p, blk x = true := by
      cases ts with
      | nil => cases ps with
        | nil => exact hg.elim
        | cons q ps => exact hg.1
      | cons y ts => cases ps with
        | nil => exact hg.elim
        | cons q ps => exact hg.1
    have hg2 : goodP ts ps := by
      cases ts with
      | nil => cases ps with
        | nil => exact hg.elim
        | cons q ps => exact hg.2
      | cons y ts => cases ps with
        | nil => exact hg.elim
        | cons q ps => exact hg.2.2
    have hgo : k ≤ 7 ∨ goes (padded b ts ps) = false := by
      by_cases hk : k ≤ 7
      · exact .inl hk
      refine .inr ?_
      cases ts with
      | nil => cases ps with
        | nil => exact hg.elim
        | cons q ps =>
          show goes q = false
          by_cases hq : q = []
          · subst hq; rfl
          · have := goes_blank (r := []) hg.2 hq
            rwa [List.append_nil] at this
      | cons y ts => cases ps with
        | nil => exact hg.elim
        | cons q ps =>
          show goes (q ++ (slice b y ++ padded b ts ps)) = false
          have hq1 : ∀ x ∈ q, blk x = true := by
            cases ts with
            | nil => cases ps with
              | nil => exact hg.2.2.elim
              | cons q2 ps => exact hg.2.2.1
            | cons y2 ts => cases ps with
              | nil => exact hg.2.2.elim
              | cons q2 ps => exact hg.2.2.1
          by_cases hq : q = []
          · rcases hg.2.1 hq with h | h
            · simp only at h; omega
            · rw [hq, List.nil_append]
              exact (hrest (q :: ps) 0 hg2).2 y ts rfl h _
          · exact goes_blank hq1 hq
    have ht2 : tok ((c :: t).take n ++ padded b ts ps) = (k, some ((c :: t).take n).length) := tok_move hne (by rw [List.take_append_drop, hlen]; exact ht) hgo
    have h1 := (hrest ps (j + p.length + n) hg2).1
    have h2 := Toks.cons (b := p) (c := c) (t := t.take m ++ padded b ts ps) (i := j) (k := k) (n := n) (ts := moved ts ps (j + p.length + n)) (e := none) hp hc (by rw [← List.cons_append, ← hcons, ht2, hlen]) (by
      rw [← List.cons_append, ← hcons, List.drop_append_of_le_length (by omega), List.drop_eq_nil_of_le (by omega), List.nil_append]
      exact h1)
    rw [← List.cons_append, ← hcons] at h2
    show Toks (p ++ (slice b (k, i + (b0.length : Int), i + (b0.length : Int) + (n : Int)) ++ padded b ts ps)) j ((k, j + p.length, j + p.length + (i + (b0.length : Int) + (n : Int) - (i + (b0.length : Int)))) :: moved ts ps (j + p.length + (i + (b0.length : Int) + (n : Int) - (i + (b0.length : Int))))) none
    rw [hsl, show i + (b0.length : Int) + (n : Int) - (i + (b0.length : Int)) = (n : Int) by omega]
    exact h2
/-- UTF-8 without fault. -/
def isU (l : List Int) : Prop := ∃ rs, (∀ r ∈ rs, isCp r) ∧ l = encAll rs
theorem isU_append {a b : List Int} (ha : isU a) (hb : isU b) : isU (a ++ b) := by
  obtain ⟨x, h1, rfl⟩ := ha
  obtain ⟨y, h2, rfl⟩ := hb
  exact ⟨x ++ y, fun r hr => (List.mem_append.1 hr).elim (h1 r) (h2 r), (encAll_append x y).symm⟩
theorem isU_ascii : ∀ {l : List Int}, (∀ x ∈ l, 0 ≤ x ∧ x < 128) → isU l
  | [], _ => ⟨[], fun _ h => by simp at h, rfl⟩
  | c :: l, h => by
    have h1 := h c List.mem_cons_self
    obtain ⟨rs, h2, h3⟩ := isU_ascii (l := l) fun x hx => h x (List.mem_cons_of_mem _ hx)
    refine ⟨c :: rs, fun r hr => ?_, ?_⟩
    · rcases List.mem_cons.1 hr with rfl | hr
      · exact ⟨h1.1, by omega, by omega⟩
      · exact h2 r hr
    · rw [encAll_cons, ← h3]
      unfold enc
      rw [if_pos h1.2]; rfl
theorem enc_tail {r : Int} (hr : isCp r) {x y : List Int} (h : enc r = x ++ y) (hx : x ≠ []) : ∀ c ∈ y, 128 ≤ c := by
  unfold isCp at hr
  rcases x with _ | ⟨c0, x⟩
  · exact absurd rfl hx
  unfold enc at h
  intro c hc
  have hm : c ∈ x ++ y := List.mem_append.2 (.inr hc)
  (repeat' split at h) <;> (simp only [List.cons_append, List.cons.injEq] at h; rw [← h.2] at hm; simp only [List.mem_cons, List.not_mem_nil, or_false] at hm) <;> omega
/-- A text of UTF-8 parts where one byte stands alone. -/
theorem isU_split : ∀ (rs : List Int) (x y : List Int), (∀ r ∈ rs, isCp r) → encAll rs = x ++ y → (∀ c t, y = c :: t → c < 128) → isU x ∧ isU y
  | [], x, y, _, h, _ => by
    rw [encAll_nil] at h
    obtain ⟨rfl, rfl⟩ := List.append_eq_nil_iff.1 h.symm
    exact ⟨⟨[], fun _ h => by simp at h, rfl⟩, ⟨[], fun _ h => by simp at h, rfl⟩⟩
  | r :: rs, x, y, hr, h, hy => by
    have h1 := hr r List.mem_cons_self
    have h2 : ∀ q ∈ rs, isCp q := fun q hq => hr q (List.mem_cons_of_mem _ hq)
    by_cases hx : x = []
    · subst hx
      rw [List.nil_append] at h
      exact ⟨⟨[], fun _ h => by simp at h, rfl⟩, r :: rs, hr, h.symm⟩
    rw [encAll_cons] at h
    rcases List.append_eq_append_iff.1 h with ⟨z, h3, h4⟩ | ⟨z, h3, h4⟩
    · obtain ⟨u1, u2⟩ := isU_split rs z y h2 h4 hy
      refine ⟨?_, u2⟩
      rw [h3]
      exact isU_append ⟨[r], fun q hq => by rw [List.mem_singleton.1 hq]; exact h1, by rw [encAll_cons, encAll_nil, List.append_nil]⟩ u1
    · rcases z with _ | ⟨c, z⟩
      · rw [List.append_nil] at h3
        rw [List.nil_append] at h4
        subst h4
        rw [← h3]
        exact ⟨⟨[r], fun q hq => by rw [List.mem_singleton.1 hq]; exact h1, by rw [encAll_cons, encAll_nil, List.append_nil]⟩, rs, h2, rfl⟩
      · exfalso
        have k1 := enc_tail h1 h3 hx c List.mem_cons_self
        have k2 := hy c (z ++ encAll rs) h4
        omega
/-- Each token of a text of UTF-8 is one, and so are they with other blanks. -/
theorem pad_isU (b : List Int) {l : List Int} {i : Int} {ts : List (Int × Int × Int)} {e : Option Int} (h : Toks l i ts e) : e = none → ∀ pre, b = pre ++ l → i = pre.length → isU l → ∀ (ps : List (List Int)), goodP ts ps → isU (padded b ts ps) := by
  have blkA : ∀ {p : List Int}, (∀ x ∈ p, blk x = true) → isU p := fun hp => isU_ascii fun x hx => by
    have := hp x hx
    unfold blk at this
    simp only [decide_eq_true_eq] at this
    omega
  induction h with
  | @nil b0 i hb =>
    intro _ pre hpre hi _ ps hg
    rcases ps with _ | ⟨p, ps⟩
    · exact hg.elim
    · exact blkA hg
  | bad => intro h; simp at h
  | @cons b0 c t i k n ts e hb hc ht hr ih =>
    intro he pre hpre hi hu ps hg
    have hn := tok_le ht
    have hsl : slice b (k, i + (b0.length : Int), i + (b0.length : Int) + (n : Int)) = (c :: t).take n := by
      unfold slice
      simp only
      rw [hpre, ← List.append_assoc, show (i + (b0.length : Int)).toNat = (pre ++ b0).length by rw [List.length_append]; omega, List.drop_left, show (i + (b0.length : Int) + (n : Int) - (i + (b0.length : Int))).toNat = n by omega]
    have hlen : ((c :: t).take n).length = n := by rw [List.length_take]; omega
    obtain ⟨rs, q1, q2⟩ := hu
    have u1 := (isU_split rs b0 (c :: t) q1 q2.symm (fun c' t' h => by cases h; exact (tok_kind ht).2.2.2.2)).2
    obtain ⟨rs1, q3, q4⟩ := u1
    have hfirst : ∀ c' t', (c :: t).drop n = c' :: t' → c' < 128 := by
      intro c' t' hd
      rw [hd] at hr
      generalize hq : c' :: t' = q at hr
      cases hr with
      | nil hb1 =>
        have := hb1 c' (by rw [← hq]; exact List.mem_cons_self)
        unfold blk at this
        simp only [decide_eq_true_eq] at this
        omega
      | bad => simp at he
      | @cons b1 c1 t1 _ _ _ _ _ hb1 hc1 ht1 _ =>
        rcases b1 with _ | ⟨x, b1⟩
        · rw [List.nil_append] at hq
          cases hq
          exact (tok_kind ht1).2.2.2.2
        · rw [List.cons_append] at hq
          cases hq
          have := hb1 c' List.mem_cons_self
          unfold blk at this
          simp only [decide_eq_true_eq] at this
          omega
    obtain ⟨u2, u3⟩ := isU_split rs1 ((c :: t).take n) ((c :: t).drop n) q3 (by rw [List.take_append_drop]; exact q4.symm) hfirst
    have hrest := ih he (pre ++ (b0 ++ (c :: t).take n)) (by rw [hpre, List.append_assoc, List.append_assoc, List.take_append_drop]) (by rw [List.length_append, List.length_append, hlen]; omega) u3
    rcases ps with _ | ⟨p, ps⟩
    · exact absurd hg (by cases ts <;> exact id)
    have hp : (∀ x ∈ p, blk x = true) ∧ goodP ts ps := by
      cases ts with
      | nil => cases ps with
        | nil => exact hg.elim
        | cons q ps => exact ⟨hg.1, hg.2⟩
      | cons y ts => cases ps with
        | nil => exact hg.elim
        | cons q ps => exact ⟨hg.1, hg.2.2⟩
    show isU (p ++ (slice b _ ++ padded b ts ps))
    rw [hsl]
    exact isU_append (blkA hp.1) (isU_append u2 (hrest ps hp.2))
theorem goodP_of : ∀ (ts : List (Int × Int × Int)) (ps : List (List Int)), ps.length = ts.length + 1 → (∀ p ∈ ps, ∀ x ∈ p, blk x = true) →
    (∀ i x y, ts[i]? = some x → ts[i + 1]? = some y → ps[i + 1]? = some [] → x.1 < 7 ∨ y.1 < 7) → goodP ts ps
  | [], [], h, _, _ => by simp at h
  | [], p :: _, _, hb, _ => hb p List.mem_cons_self
  | [_], [], h, _, _ => by simp at h
  | [_], [_], h, _, _ => by simp at h
  | [_], p :: q :: _, _, hb, _ => ⟨hb p List.mem_cons_self, hb q (List.mem_cons_of_mem _ List.mem_cons_self)⟩
  | _ :: _ :: _, [], h, _, _ => by simp at h
  | _ :: _ :: _, [_], h, _, _ => by simp at h
  | x :: y :: ts, p :: q :: ps, h, hb, hc =>
    ⟨hb p List.mem_cons_self, fun hq => hc 0 x y rfl rfl (by rw [hq]; rfl), goodP_of (y :: ts) (q :: ps) (by simpa using h) (fun r hr => hb r (List.mem_cons_of_mem _ hr)) (fun i a b h1 h2 h3 => hc (i + 1) a b h1 h2 h3)⟩
theorem slice_len {b : List Int} {x : Int × Int × Int} (h0 : 0 ≤ x.2.1) (h1 : x.2.1 ≤ x.2.2) (h2 : x.2.2 ≤ b.length) : ((slice b x).length : Int) = x.2.2 - x.2.1 := by
  unfold slice
  rw [List.length_take, List.length_drop]
  omega
theorem moved_len (b : List Int) : ∀ (ts : List (Int × Int × Int)) (ps : List (List Int)) (j : Int), ps.length = ts.length + 1 → (moved ts ps j).length = ts.length
  | [], [], _, h => by simp at h
  | [], _ :: _, _, _ => rfl
  | _ :: _, [], _, h => by simp at h
  | x :: ts, p :: ps, j, h => by
    rw [moved, List.length_cons, List.length_cons, moved_len b ts ps _ (by simpa using h)]
theorem moved_at (b : List Int) : ∀ (ts : List (Int × Int × Int)) (ps : List (List Int)) (pre : List Int) (i : Nat) (x : Int × Int × Int), ps.length = ts.length + 1 → (∀ x ∈ ts, 0 ≤ x.2.1 ∧ x.2.1 ≤ x.2.2 ∧ x.2.2 ≤ b.length) → ts[i]? = some x →
    ∃ y, (moved ts ps pre.length)[i]? = some y ∧ y.1 = x.1 ∧ slice (pre ++ padded b ts ps) y = slice b x ∧ 0 ≤ y.2.1 ∧ y.2.1 ≤ y.2.2 ∧ y.2.2 ≤ (pre ++ padded b ts ps).length
  | [], _, _, i, x, _, _, h => by simp at h
  | _ :: _, [], _, _, _, h, _, _ => by simp at h
  | x :: ts, p :: ps, pre, 0, y, h, hx, he => by
    have hx0 := hx x List.mem_cons_self
    have hl := slice_len hx0.1 hx0.2.1 hx0.2.2
    cases he
    refine ⟨_, rfl, rfl, ?_, ?_⟩
    · show slice (pre ++ (p ++ (slice b x ++ padded b ts ps))) (x.1, (pre.length : Int) + p.length, (pre.length : Int) + p.length + (x.2.2 - x.2.1)) = _
      generalize slice b x = w at hl
      unfold slice
      simp only
      rw [← List.append_assoc, show ((pre.length : Int) + p.length).toNat = (pre ++ p).length by rw [List.length_append]; omega, List.drop_left, show ((pre.length : Int) + p.length + (x.2.2 - x.2.1) - ((pre.length : Int) + p.length)).toNat = w.length by omega, List.take_left]
    · show (0 : Int) ≤ (pre.length : Int) + p.length ∧ (pre.length : Int) + p.length ≤ (pre.length : Int) + p.length + (x.2.2 - x.2.1) ∧ (pre.length : Int) + p.length + (x.2.2 - x.2.1) ≤ ((pre ++ (p ++ (slice b x ++ padded b ts ps))).length : Nat)
      simp only [List.length_append]
      omega
  | x :: ts, p :: ps, pre, i + 1, y, h, hx, he => by
    have hx0 := hx x List.mem_cons_self
    have hl := slice_len hx0.1 hx0.2.1 hx0.2.2
    obtain ⟨z, h1, h2, h3, h4⟩ := moved_at b ts ps (pre ++ (p ++ slice b x)) i y (by simpa using h) (fun x hx' => hx x (List.mem_cons_of_mem _ hx')) (by simpa using he)
    have e1 : pre ++ (p ++ slice b x) ++ padded b ts ps = pre ++ padded b (x :: ts) (p :: ps) := by
      show _ = pre ++ (p ++ (slice b x ++ padded b ts ps))
      simp only [List.append_assoc]
    rw [e1] at h3 h4
    refine ⟨z, ?_, h2, h3, h4⟩
    show (moved ts ps ((pre.length : Int) + p.length + (x.2.2 - x.2.1)))[i]? = some z
    rw [show (pre.length : Int) + p.length + (x.2.2 - x.2.1) = ((pre ++ (p ++ slice b x)).length : Nat) by simp only [List.length_append]; omega]
    exact h1
theorem toks_in {l : List Int} {i : Int} {ts : List (Int × Int × Int)} {e : Option Int} (h : Toks l i ts e) : ∀ x ∈ ts, i ≤ x.2.1 ∧ x.2.1 ≤ x.2.2 ∧ x.2.2 ≤ i + (l.length : Int) := by
  induction h with
  | nil => intro x hx; simp at hx
  | bad => intro x hx; simp at hx
  | @cons b c t i k n ts e hb hc ht hr ih =>
    intro x hx
    have hn := tok_le ht
    simp only [List.length_append, List.length_cons] at hn ⊢
    rcases List.mem_cons.1 hx with rfl | hx
    · simp only
      omega
    · have := ih x hx
      rw [List.length_drop, List.length_cons] at this
      omega
theorem pad_len (b : List Int) {l : List Int} {i : Int} {ts : List (Int × Int × Int)} {e : Option Int} (h : Toks l i ts e) : ∀ pre, b = pre ++ l → i = pre.length → ∀ (ps : List (List Int)), (∀ p ∈ ps, p.length ≤ 3) → (padded b ts ps).length ≤ l.length + 3 * (ts.length + 1) := by
  induction h with
  | @nil b0 i hb =>
    intro pre hpre hi ps hg
    rcases ps with _ | ⟨p, ps⟩
    · exact Nat.zero_le _
    · have := hg p List.mem_cons_self
      show p.length ≤ _
      omega
  | @bad b0 c t i hb hc ht =>
    intro pre hpre hi ps hg
    rcases ps with _ | ⟨p, ps⟩
    · exact Nat.zero_le _
    · have := hg p List.mem_cons_self
      show p.length ≤ _
      omega
  | @cons b0 c t i k n ts e hb hc ht hr ih =>
    intro pre hpre hi ps hg
    have hn := tok_le ht
    have hsl : slice b (k, i + (b0.length : Int), i + (b0.length : Int) + (n : Int)) = (c :: t).take n := by
      unfold slice
      simp only
      rw [hpre, ← List.append_assoc, show (i + (b0.length : Int)).toNat = (pre ++ b0).length by rw [List.length_append]; omega, List.drop_left, show (i + (b0.length : Int) + (n : Int) - (i + (b0.length : Int))).toNat = n by omega]
    have hlen : ((c :: t).take n).length = n := by rw [List.length_take]; omega
    rcases ps with _ | ⟨p, ps⟩
    · exact Nat.zero_le _
    · have h1 := hg p List.mem_cons_self
      have h2 := ih (pre ++ (b0 ++ (c :: t).take n)) (by rw [hpre, List.append_assoc, List.append_assoc, List.take_append_drop]) (by rw [List.length_append, List.length_append, hlen]; omega) ps (fun q hq => hg q (List.mem_cons_of_mem _ hq))
      show (p ++ (slice b _ ++ padded b ts ps)).length ≤ _
      rw [hsl, List.length_append, List.length_append, hlen, List.length_append]
      rw [List.length_drop] at h2
      simp only [List.length_cons] at h2 hn ⊢
      omega
theorem toks_num {l : List Int} {i : Int} {ts : List (Int × Int × Int)} {e : Option Int} (h : Toks l i ts e) : ts.length ≤ l.length := by
  induction h with
  | nil => exact Nat.zero_le _
  | bad => exact Nat.zero_le _
  | @cons b c t i k n ts e hb hc ht hr ih =>
    have hn := tok_le ht
    simp only [List.length_append, List.length_cons, List.length_drop] at hn ih ⊢
    omega
end Go.Proofs.Ytlhhibhcoefolaa.Jlex
