/- Lines and columns in plain Lean: which place any byte of a text has. No program stands here. -/
import Derived.Test.YtngjpmeenoohmaaUtf
namespace Go.Proofs.Ytngjpmeenoohmaa.Lines
open Go.RowKit Go.Proofs.Ytngjpmeenoohmaa.Base Go.Proofs.Ytngjpmeenoohmaa.Utf

def units (r : Int) : Int := if r ≥ 65536 then 2 else 1
theorem units_range (r : Int) : 1 ≤ units r ∧ units r ≤ 2 := by
  unfold units
  split <;> omega
/-- A line ends behind a code point. -/
def brk (r : Int) (rest : List Int) : Prop := r = 10 ∨ r = 13 ∧ rest.head? ≠ some 10
instance (r : Int) (rest : List Int) : Decidable (brk r rest) := by unfold brk; infer_instance
def stp (p : Int × Int) (r : Int) (rest : List Int) : Int × Int := if brk r rest then (p.1 + 1, 0) else (p.1, p.2 + units r)
/-- The place of a byte, of a text that begins at a place. -/
def at_ : Nat → List Int → Nat → Int × Int → Int × Int
  | 0, _, _, p => p
  | n + 1, l, off, p =>
    if off = 0 ∨ l = [] then p
    else if off < (dec l).2.1.toNat then (p.1, p.2 + units (dec l).1)
    else at_ n (l.drop (dec l).2.1.toNat) (off - (dec l).2.1.toNat) (stp p (dec l).1 (l.drop (dec l).2.1.toNat))
theorem at_zero (n : Nat) (l : List Int) (p : Int × Int) : at_ n l 0 p = p := by
  cases n with
  | zero => rfl
  | succ n => simp [at_]
theorem at_nil (n : Nat) (off : Nat) (p : Int × Int) : at_ n [] off p = p := by
  cases n with
  | zero => rfl
  | succ n => simp [at_]
theorem at_in {n : Nat} {l : List Int} {off : Nat} (p : Int × Int) (h0 : off ≠ 0) (hl : l ≠ []) (h : off < (dec l).2.1.toNat) : at_ (n + 1) l off p = (p.1, p.2 + units (dec l).1) := by
  simp only [at_]
  rw [if_neg (by intro h2; rcases h2 with h2 | h2; · exact h0 h2
                 · exact hl h2), if_pos h]
theorem at_out {n : Nat} {l : List Int} {off : Nat} (p : Int × Int) (h0 : off ≠ 0) (hl : l ≠ []) (h : (dec l).2.1.toNat ≤ off) :
    at_ (n + 1) l off p = at_ n (l.drop (dec l).2.1.toNat) (off - (dec l).2.1.toNat) (stp p (dec l).1 (l.drop (dec l).2.1.toNat)) := by
  simp only [at_]
  rw [if_neg (by intro h2; rcases h2 with h2 | h2; · exact h0 h2
                 · exact hl h2), if_neg (by omega)]
theorem stp_range {p : Int × Int} {r : Int} {t : List Int} {B : Int} (h : 0 ≤ p.1 ∧ p.1 ≤ B ∧ 0 ≤ p.2 ∧ p.2 ≤ 2 * B) : 0 ≤ (stp p r t).1 ∧ (stp p r t).1 ≤ B + 1 ∧ 0 ≤ (stp p r t).2 ∧ (stp p r t).2 ≤ 2 * (B + 1) := by
  unfold stp
  have := units_range r
  split <;> simp only <;> omega
/-- The lesser place, or the same. -/
def le (p q : Int × Int) : Prop := p.1 < q.1 ∨ p.1 = q.1 ∧ p.2 ≤ q.2
def lt (p q : Int × Int) : Prop := p.1 < q.1 ∨ p.1 = q.1 ∧ p.2 < q.2
theorem le_refl (p : Int × Int) : le p p := Or.inr ⟨rfl, Int.le_refl _⟩
theorem le_of_lt {p q : Int × Int} (h : lt p q) : le p q := by
  unfold lt at h
  unfold le
  omega
theorem le_trans {p q r : Int × Int} (h : le p q) (k : le q r) : le p r := by
  unfold le at *
  omega
theorem lt_of_lt_le {p q r : Int × Int} (h : lt p q) (k : le q r) : lt p r := by
  unfold lt le at *
  omega
theorem lt_ne {p q : Int × Int} (h : lt p q) : q ≠ p := by
  rintro rfl
  unfold lt at h
  omega
theorem lt_in (p : Int × Int) (r : Int) : lt p (p.1, p.2 + units r) := by
  have := units_range r
  exact Or.inr ⟨rfl, by show p.2 < p.2 + units r; omega⟩
theorem lt_stp (p : Int × Int) (r : Int) (t : List Int) : lt p (stp p r t) := by
  unfold stp
  split
  · exact Or.inl (by show p.1 < p.1 + 1; omega)
  · exact lt_in p r
theorem in_step {p : Int × Int} {r : Int} (t : List Int) (h : ¬ brk r t) : stp p r t = (p.1, p.2 + units r) := if_neg h
theorem le_at (n : Nat) : ∀ (l : List Int) (off : Nat) (p : Int × Int), le p (at_ n l off p) := by
  induction n with
  | zero => intro l off p; exact le_refl p
  | succ n ih =>
    intro l off p
    by_cases h0 : off = 0
    · subst h0
      rw [at_zero]
      exact le_refl p
    by_cases hl : l = []
    · subst hl
      rw [at_nil]
      exact le_refl p
    by_cases h : off < (dec l).2.1.toNat
    · rw [at_in p h0 hl h]
      exact le_of_lt (lt_in p _)
    · rw [at_out p h0 hl (by omega)]
      exact le_trans (le_of_lt (lt_stp p _ _)) (ih _ _ _)
/-- A byte 10 or 13 is a code point by itself. -/
theorem brk_one {l : List Int} (hb : Bytes l) (hl : l ≠ []) {t : List Int} (h : brk (dec l).1 t) : (dec l).2.1 = 1 := by
  rcases hd : dec l with ⟨r, n, ok⟩
  rw [hd] at h
  cases ok with
  | true =>
    obtain ⟨hr, rfl, t', rfl⟩ := enc_dec hb hd
    unfold brk at h
    unfold size
    simp only at h ⊢
    rw [if_pos (by omega)]
  | false =>
    have := dec_false hl (by rw [hd])
    rw [hd] at this
    simp only [bad, Prod.mk.injEq] at this
    exact this.2.1
/-- Places don't go back. -/
theorem at_mono (n : Nat) : ∀ (l : List Int) (i j : Nat) (p : Int × Int), Bytes l → i ≤ j → le (at_ n l i p) (at_ n l j p) := by
  induction n with
  | zero => intro l i j p _ _; exact le_refl p
  | succ n ih =>
    intro l i j p hb hij
    by_cases h0 : i = 0
    · subst h0
      rw [at_zero]
      exact le_at _ _ _ _
    by_cases hl : l = []
    · subst hl
      rw [at_nil, at_nil]
      exact le_refl p
    by_cases h : i < (dec l).2.1.toNat
    · rw [at_in p h0 hl h]
      by_cases h2 : j < (dec l).2.1.toNat
      · rw [at_in p (by omega) hl h2]
        exact le_refl _
      · rw [at_out p (by omega) hl (by omega)]
        refine le_trans ?_ (le_at _ _ _ _)
        have : ¬ brk (dec l).1 (l.drop (dec l).2.1.toNat) := fun hk => by
          have := brk_one hb hl hk
          omega
        rw [in_step _ this]
        exact le_refl _
    · rw [at_out p h0 hl (by omega), at_out p (by omega) hl (by omega)]
      exact ih _ _ _ _ (hb.drop _) (by omega)
/-- Where whole code points stand ahead. -/
theorem at_enc {r : Int} (hr : isCp r) (n : Nat) (t : List Int) (off : Nat) (p : Int × Int) : at_ (n + 1) (enc r ++ t) ((enc r).length + off) p = at_ n t off (stp p r t) := by
  have h1 := @enc_size r
  have h2 := size_range r
  have hd := dec_enc hr t
  have hl : enc r ++ t ≠ [] := by
    intro h
    have := congrArg List.length h
    simp only [List.length_append, List.length_nil] at this
    omega
  have e : (dec (enc r ++ t)).2.1.toNat = (enc r).length := by rw [hd]; simp only; omega
  rw [at_out p (by omega) hl (by omega), e, hd, Nat.add_sub_cancel_left]
  simp only [List.drop_left]
/-- A byte below 128. -/
theorem at_ascii {c : Int} (hc : 0 ≤ c ∧ c < 128) (n : Nat) (t : List Int) (off : Nat) (p : Int × Int) : at_ (n + 1) (c :: t) (off + 1) p = at_ n t off (stp p c t) := by
  have hr : isCp c := by unfold isCp; omega
  have e : enc c = [c] := by unfold enc; rw [if_pos hc.2]
  have := at_enc hr n t off p
  rw [e] at this
  simp only [List.cons_append, List.nil_append, List.length_singleton] at this
  rw [Nat.add_comm off 1]
  exact this
/-- More than enough changes nothing. -/
theorem at_fuel (n : Nat) : ∀ (m : Nat) (l : List Int) (off : Nat) (p : Int × Int), Bytes l → l.length ≤ n → n ≤ m → at_ m l off p = at_ n l off p := by
  induction n with
  | zero =>
    intro m l off p _ h _
    have : l = [] := List.length_eq_zero_iff.1 (by omega)
    subst this
    rw [at_nil, at_nil]
  | succ n ih =>
    intro m l off p hb h hm
    obtain ⟨m, rfl⟩ : ∃ k, m = k + 1 := ⟨m - 1, by omega⟩
    by_cases h0 : off = 0
    · subst h0
      rw [at_zero, at_zero]
    by_cases hl : l = []
    · subst hl
      rw [at_nil, at_nil]
    by_cases h2 : off < (dec l).2.1.toNat
    · rw [at_in p h0 hl h2, at_in p h0 hl h2]
    · have := dec_len hb hl
      rw [at_out p h0 hl (by omega), at_out p h0 hl (by omega)]
      refine ih _ _ _ _ (hb.drop _) ?_ (by omega)
      rw [List.length_drop]
      omega

/-- The place behind a text of code points below 128, ahead of a byte, or of the end. -/
def brkO (c : Int) (h : Option Int) : Prop := c = 10 ∨ c = 13 ∧ h ≠ some 10
instance (c : Int) (h : Option Int) : Decidable (brkO c h) := by unfold brkO; infer_instance
def stpO (p : Int × Int) (c : Int) (h : Option Int) : Int × Int := if brkO c h then (p.1 + 1, 0) else (p.1, p.2 + 1)
def runO : List Int → Option Int → Int × Int → Int × Int
  | [], _, p => p
  | c :: t, nx, p => runO t nx (stpO p c (t.head?.or nx))
theorem runO_append (a b : List Int) (nx : Option Int) : ∀ p, runO (a ++ b) nx p = runO b nx (runO a (b.head?.or nx) p) := by
  induction a with
  | nil => intro p; rfl
  | cons c a ih =>
    intro p
    simp only [List.cons_append, runO]
    rw [ih]
    congr 3
    cases a <;> simp
theorem at_runO (l : List Int) : ∀ (n : Nat) (p : Int × Int), l.length ≤ n → (∀ c ∈ l, 0 ≤ c ∧ c < 128) → at_ n l l.length p = runO l none p := by
  induction l with
  | nil => intro n p _ _; rw [at_nil]; rfl
  | cons c t ih =>
    intro n p hn hc
    obtain ⟨n, rfl⟩ : ∃ m, n = m + 1 := ⟨n - 1, by simp only [List.length_cons] at hn; omega⟩
    have hcc := hc c (by simp)
    rw [List.length_cons, at_ascii hcc, ih n _ (by simp only [List.length_cons] at hn; omega) (fun x hx => hc x (by simp [hx]))]
    simp only [runO]
    congr 1
    unfold stp stpO brk brkO units
    rw [if_neg (show ¬ c ≥ 65536 by omega), Option.or_none]
theorem runO_x (w : Nat) (nx : Option Int) : ∀ p : Int × Int, runO (List.replicate w 120) nx p = (p.1, p.2 + (w : Int)) := by
  induction w with
  | zero => intro p; simp [runO]
  | succ w ih =>
    intro p
    rw [List.replicate_succ]
    simp only [runO]
    rw [ih]
    have : ¬ brkO 120 ((List.replicate w (120 : Int)).head?.or nx) := by unfold brkO; omega
    unfold stpO
    rw [if_neg this]
    simp only [Prod.mk.injEq, true_and]
    omega

/-- The place behind code points that stand ahead of a text. -/
def runR : List Int → List Int → Int × Int → Int × Int
  | [], _, p => p
  | r :: rs, t, p => runR rs t (stp p r (encAll rs ++ t))
theorem at_runR (rs : List Int) : ∀ (n : Nat) (t : List Int) (off : Nat) (p : Int × Int), (∀ r ∈ rs, isCp r) → rs.length ≤ n → at_ n (encAll rs ++ t) ((encAll rs).length + off) p = at_ (n - rs.length) t off (runR rs t p) := by
  induction rs with
  | nil => intro n t off p _ _; simp [encAll_nil, runR]
  | cons r rs ih =>
    intro n t off p hr hn
    obtain ⟨n, rfl⟩ : ∃ m, n = m + 1 := ⟨n - 1, by simp only [List.length_cons] at hn; omega⟩
    rw [encAll_cons, List.append_assoc, List.length_append, Nat.add_assoc, at_enc (hr r (by simp)), ih n t off _ (fun x hx => hr x (by simp [hx])) (by simp only [List.length_cons] at hn; omega)]
    simp only [runR, List.length_cons]
    rw [show n + 1 - (rs.length + 1) = n - rs.length by omega]
theorem encAll_length (rs : List Int) : rs.length ≤ (encAll rs).length ∧ (encAll rs).length ≤ 4 * rs.length := by
  induction rs with
  | nil => simp [encAll_nil]
  | cons r rs ih =>
    rw [encAll_cons, List.length_append, List.length_cons]
    have h1 := @enc_size r
    have h2 := size_range r
    omega
/-- Behind where a code point begins every place is a later one. -/
theorem at_later {n : Nat} {t : List Int} {off : Nat} (p : Int × Int) (hn : t.length ≤ n) (h0 : off ≠ 0) (ht : t ≠ []) : lt p (at_ n t off p) := by
  obtain ⟨n, rfl⟩ : ∃ m, n = m + 1 := ⟨n - 1, by have := List.length_pos_iff.2 ht; omega⟩
  by_cases h : off < (dec t).2.1.toNat
  · rw [at_in p h0 ht h]
    exact lt_in p _
  · rw [at_out p h0 ht (by omega)]
    exact lt_of_lt_le (lt_stp p _ _) (le_at _ _ _ _)
/-- The last of some places that is the one that is sought. -/
def lastAt (f : Nat → Int × Int) (q : Int × Int) : Nat → Nat → Int × Bool → Int × Bool
  | 0, _, c => c
  | d + 1, i, c => lastAt f q d (i + 1) (if f i = q then ((i : Int), true) else c)
theorem lastAt_tells (f : Nat → Int × Int) (q : Int × Int) (d : Nat) : ∀ (i : Nat) (c : Int × Bool),
    (∃ j, i ≤ j ∧ j < i + d ∧ f j = q ∧ (∀ m, j < m → m < i + d → f m ≠ q) ∧ lastAt f q d i c = ((j : Int), true)) ∨ ((∀ m, i ≤ m → m < i + d → f m ≠ q) ∧ lastAt f q d i c = c) := by
  induction d with
  | zero => intro i c; right; exact ⟨fun m _ _ => by omega, rfl⟩
  | succ d ih =>
    intro i c
    simp only [lastAt]
    rcases ih (i + 1) (if f i = q then ((i : Int), true) else c) with ⟨j, h1, h2, h3, h4, h5⟩ | ⟨h1, h2⟩
    · left
      exact ⟨j, by omega, by omega, h3, fun m hm hm2 => h4 m hm (by omega), h5⟩
    · by_cases h : f i = q
      · left
        refine ⟨i, Nat.le_refl _, by omega, h, fun m hm hm2 => h1 m (by omega) (by omega), ?_⟩
        rw [h2, if_pos h]
      · right
        refine ⟨fun m hm hm2 => ?_, ?_⟩
        · by_cases hmi : m = i
          · subst hmi; exact h
          · exact h1 m (by omega) (by omega)
        · rw [h2, if_neg h]

end Go.Proofs.Ytngjpmeenoohmaa.Lines
