/- Which units a text of JSON stands for, in plain Lean: what is written stands for what it was written for, and nothing that stands for it is shorter. No program stands here. -/
import Derived.Test.YtlhhibhcoefolaaJstr
namespace Go.Proofs.Ytlhhibhcoefolaa.Jstr
open Go.RowKit Go.Proofs.YtlhhibhcoefolaaW.PrintWords Go.Proofs.Ytlhhibhcoefolaa.Base Go.Proofs.Ytlhhibhcoefolaa.Utf

/-- What a digit of base 16 is worth; below 0: it is none. -/
def hexv (c : Int) : Int := if 48 ≤ c ∧ c ≤ 57 then c - 48 else if 97 ≤ c ∧ c ≤ 102 then c - 87 else if 65 ≤ c ∧ c ≤ 70 then c - 55 else -1
/-- What may stand behind a backslash, and what it is. -/
def esc (c : Int) : Prop := c = 34 ∨ c = 92 ∨ c = 47 ∨ c = 98 ∨ c = 102 ∨ c = 110 ∨ c = 114 ∨ c = 116
instance (c : Int) : Decidable (esc c) := by unfold esc; infer_instance
def escv (c : Int) : Int := if c = 98 then 8 else if c = 102 then 12 else if c = 110 then 10 else if c = 114 then 13 else if c = 116 then 9 else c
/-- A code point's units. -/
def pr (r : Int) : List Int := if r < 65536 then [r] else [55296 + (r - 65536) / 1024, 56320 + (r - 65536) % 1024]
/-- A text behind its first mark stands for units. -/
inductive Reads : List Int → List Int → Prop
  | done : Reads [34] []
  | cp {r : Int} {t l : List Int} : isCp r → 32 ≤ r → r ≠ 34 → r ≠ 92 → Reads t l → Reads (enc r ++ t) (pr r ++ l)
  | u {a b c d : Int} {t l : List Int} : 0 ≤ hexv a → 0 ≤ hexv b → 0 ≤ hexv c → 0 ≤ hexv d → Reads t l → Reads (92 :: 117 :: a :: b :: c :: d :: t) ((((hexv a * 16 + hexv b) * 16 + hexv c) * 16 + hexv d) :: l)
  | e {c : Int} {t l : List Int} : esc c → Reads t l → Reads (92 :: c :: t) (escv c :: l)
/-- A text behind its first mark is one, but for its code points. -/
inductive Jt : List Int → Prop
  | done : Jt [34]
  | ch {c : Int} {t : List Int} : 32 ≤ c → c ≠ 34 → c ≠ 92 → Jt t → Jt (c :: t)
  | u {a b c d : Int} {t : List Int} : 0 ≤ hexv a → 0 ≤ hexv b → 0 ≤ hexv c → 0 ≤ hexv d → Jt t → Jt (92 :: 117 :: a :: b :: c :: d :: t)
  | e {c : Int} {t : List Int} : esc c → Jt t → Jt (92 :: c :: t)

theorem hexv_lt (c : Int) : hexv c < 16 := by
  unfold hexv
  repeat' split
  all_goals omega
theorem hexv_range {c : Int} (h : 0 ≤ hexv c) : 48 ≤ c ∧ c ≤ 102 := by
  unfold hexv at h
  repeat' split at h
  all_goals omega
theorem hexv_hexd {n : Int} (h0 : 0 ≤ n) (h1 : n < 16) : hexv (hexd n) = n := by
  unfold hexd hexv
  split
  · rw [if_pos (by omega)]; omega
  · rw [if_neg (by omega), if_pos (by omega)]; omega
theorem esc_range {c : Int} (h : esc c) : 34 ≤ c ∧ c ≤ 116 ∧ c ≠ 117 := by
  unfold esc at h
  omega
theorem escv_range {c : Int} (h : esc c) : 0 ≤ escv c ∧ escv c ≤ 92 := by
  unfold esc at h
  rcases h with rfl | rfl | rfl | rfl | rfl | rfl | rfl | rfl <;> decide
theorem short_esc {n c : Int} (h : short n = some c) : esc c ∧ escv c = n := by
  have key : ∀ a b : Int, some a = some b → esc a → escv a = n → esc b ∧ escv b = n := by
    intro a b e h1 h2
    obtain rfl := Option.some.inj e
    exact ⟨h1, h2⟩
  unfold short at h
  split at h
  · subst_vars; exact key _ _ h (by decide) (by decide)
  split at h
  · subst_vars; exact key _ _ h (by decide) (by decide)
  split at h
  · subst_vars; exact key _ _ h (by decide) (by decide)
  split at h
  · subst_vars; exact key _ _ h (by decide) (by decide)
  split at h
  · subst_vars; exact key _ _ h (by decide) (by decide)
  split at h
  · subst_vars; exact key _ _ h (by decide) (by decide)
  split at h
  · subst_vars; exact key _ _ h (by decide) (by decide)
  · exact absurd h (by simp)
theorem short_not {n : Int} (h : short n = none) : n ≠ 34 ∧ n ≠ 92 := by
  constructor
  · rintro rfl; exact absurd h (by decide)
  · rintro rfl; exact absurd h (by decide)
theorem short_none {n : Int} (h : 92 < n) : short n = none := by
  unfold short
  rw [if_neg (by omega), if_neg (by omega), if_neg (by omega), if_neg (by omega), if_neg (by omega), if_neg (by omega), if_neg (by omega)]
/-- A unit, as it is written, stands for itself. -/
theorem reads_spell {n : Int} {t l : List Int} (h0 : 0 ≤ n) (h1 : n ≤ 65535) (h : Reads t l) : Reads (spell n ++ t) (n :: l) := by
  unfold spell
  rcases hs : short n with _ | c
  · simp only
    split
    · rename_i hr
      have := @Reads.u (hexd (n / 4096)) (hexd (n / 256 % 16)) (hexd (n / 16 % 16)) (hexd (n % 16)) t l
      rw [hexv_hexd (by omega) (by omega), hexv_hexd (by omega) (by omega), hexv_hexd (by omega) (by omega), hexv_hexd (by omega) (by omega)] at this
      have h2 := this (by omega) (by omega) (by omega) (by omega) h
      rw [show ((n / 4096 * 16 + n / 256 % 16) * 16 + n / 16 % 16) * 16 + n % 16 = n by omega] at h2
      exact h2
    · rename_i hr
      have hcp : isCp n := ⟨h0, by omega, by omega⟩
      have h2 := Reads.cp hcp (by omega) (short_not hs).1 (short_not hs).2 h
      unfold put
      rw [fix_of hcp]
      unfold pr at h2
      rw [if_pos (by omega)] at h2
      exact h2
  · obtain ⟨h2, h3⟩ := short_esc hs
    have := Reads.e h2 h
    rw [h3] at this
    exact this
theorem body_single {c d : Int} {t : List Int} (h : ¬ ((55296 ≤ c ∧ c < 56320) ∧ (56320 ≤ d ∧ d < 57344))) : body (c :: d :: t) = spell c ++ body (d :: t) := by
  unfold body
  rw [pairs, if_neg h]
  rfl
theorem body_double {c d : Int} {t : List Int} (h : (55296 ≤ c ∧ c < 56320) ∧ (56320 ≤ d ∧ d < 57344)) : body (c :: d :: t) = enc (65536 + (c - 55296) * 1024 + d - 56320) ++ body t := by
  unfold body
  rw [pairs, if_pos h]
  have hcp : isCp (65536 + (c - 55296) * 1024 + d - 56320) := ⟨by omega, by omega, by omega⟩
  rw [List.flatMap_cons]
  congr 1
  unfold spell
  rw [short_none (by omega)]
  simp only
  rw [if_neg (by omega)]
  unfold put
  rw [fix_of hcp]
theorem body_one (n : Int) : body [n] = spell n ++ body [] := by
  simp [body, pairs]
/-- What is written stands for what it was written for. -/
theorem reads_body : ∀ (l : List Int), right l → Reads (body l ++ [34]) l
  | [], _ => by
    simp only [body, pairs, List.flatMap_nil, List.nil_append]
    exact Reads.done
  | [n], h => by
    have h1 := (right_cons.1 h).1
    rw [body_one]
    simp only [body, pairs, List.flatMap_nil, List.append_nil]
    exact reads_spell h1.1 h1.2 Reads.done
  | n :: m :: t, h => by
    have h1 := (right_cons.1 h).1
    have h2 := right_cons.1 (right_cons.1 h).2
    by_cases hp : (55296 ≤ n ∧ n < 56320) ∧ (56320 ≤ m ∧ m < 57344)
    · rw [body_double hp, List.append_assoc]
      have hcp : isCp (65536 + (n - 55296) * 1024 + m - 56320) := ⟨by omega, by omega, by omega⟩
      have h3 := Reads.cp hcp (by omega) (by omega) (by omega) (reads_body t h2.2)
      unfold pr at h3
      rw [if_neg (by omega), show 55296 + (65536 + (n - 55296) * 1024 + m - 56320 - 65536) / 1024 = n by omega, show 56320 + (65536 + (n - 55296) * 1024 + m - 56320 - 65536) % 1024 = m by omega] at h3
      exact h3
    · rw [body_single hp, List.append_assoc]
      exact reads_spell h1.1 h1.2 (reads_body (m :: t) (right_cons.1 h).2)
/-- One unit more makes no more than what it is written as alone. -/
theorem body_cons_le (x : Int) (l : List Int) : (body (x :: l)).length ≤ (spell x).length + (body l).length := by
  rcases l with _ | ⟨m, t⟩
  · rw [body_one]
    simp
  · by_cases hp : (55296 ≤ x ∧ x < 56320) ∧ (56320 ≤ m ∧ m < 57344)
    · rw [body_double hp]
      have h1 : (spell x).length = 6 := by
        unfold spell
        rw [short_none (by omega)]
        simp only
        rw [if_pos (by omega)]
        simp [four]
      have h2 : (body t).length ≤ (body (m :: t)).length := by
        rcases t with _ | ⟨y, t⟩
        · rw [body_one]; simp
        · rw [body_single (by omega)]; simp
      have h3 : ((enc (65536 + (x - 55296) * 1024 + m - 56320)).length : Int) ≤ 4 := by
        rw [enc_size]
        exact (size_range _).2
      simp only [List.length_append]
      omega
    · rw [body_single hp]
      simp
theorem spell_esc {c : Int} (h : esc c) : (spell (escv c)).length ≤ 2 := by
  unfold esc at h
  rcases h with rfl | rfl | rfl | rfl | rfl | rfl | rfl | rfl <;> decide +kernel
theorem body_pr {r : Int} (h : isCp r) (h32 : 32 ≤ r) (h34 : r ≠ 34) (h92 : r ≠ 92) (l : List Int) : (body (pr r ++ l)).length ≤ (enc r).length + (body l).length := by
  have h' := h
  unfold isCp at h'
  unfold pr
  split
  · refine Nat.le_trans (body_cons_le r l) ?_
    have : spell r = enc r := by
      have hs : short r = none := by
        unfold short
        rw [if_neg (by omega), if_neg (by omega), if_neg (by omega), if_neg (by omega), if_neg (by omega), if_neg (by omega), if_neg (by omega)]
      unfold spell
      rw [hs]
      simp only
      rw [if_neg (by omega)]
      unfold put
      rw [fix_of h]
    rw [this]
    exact Nat.le_refl _
  · show (body ((55296 + (r - 65536) / 1024) :: (56320 + (r - 65536) % 1024) :: l)).length ≤ _
    rw [body_double (by omega), show 65536 + (55296 + (r - 65536) / 1024 - 55296) * 1024 + (56320 + (r - 65536) % 1024) - 56320 = r by omega, List.length_append]
    exact Nat.le_refl _
/-- No text that stands for the same units is shorter. -/
theorem reads_least {t l : List Int} (h : Reads t l) : (body l).length + 1 ≤ t.length := by
  induction h with
  | done => simp [body, pairs]
  | @cp r t l h1 h2 h3 h4 _ ih =>
    have := body_pr h1 h2 h3 h4 l
    simp only [List.length_append]
    omega
  | @u a b c d t l h1 h2 h3 h4 _ ih =>
    have h5 := body_cons_le (((hexv a * 16 + hexv b) * 16 + hexv c) * 16 + hexv d) l
    have h6 := (spell_len (((hexv a * 16 + hexv b) * 16 + hexv c) * 16 + hexv d)).2
    simp only [List.length_cons]
    omega
  | @e c t l h1 _ ih =>
    have h5 := body_cons_le (escv c) l
    have h6 := spell_esc h1
    simp only [List.length_cons]
    omega
theorem reads_right {t l : List Int} (h : Reads t l) : right l := by
  induction h with
  | done => exact right_nil
  | @cp r t l h1 h2 h3 h4 _ ih =>
    unfold isCp at h1
    unfold pr
    split
    · exact right_cons.2 ⟨by omega, ih⟩
    · exact right_cons.2 ⟨by omega, right_cons.2 ⟨by omega, ih⟩⟩
  | @u a b c d t l h1 h2 h3 h4 _ ih =>
    have := hexv_lt a
    have := hexv_lt b
    have := hexv_lt c
    have := hexv_lt d
    exact right_cons.2 ⟨by omega, ih⟩
  | @e c t l h1 _ ih =>
    have := escv_range h1
    exact right_cons.2 ⟨by omega, ih⟩
theorem pr_len (r : Int) : ((pr r).length : Int) ≤ size r := by
  unfold pr size
  repeat' split
  all_goals first | (simp; done) | (exfalso; omega) | (simp only [List.length_cons, List.length_nil]; omega)
theorem reads_units {t l : List Int} (h : Reads t l) : l.length ≤ t.length := by
  induction h with
  | done => simp
  | @cp r t l h1 h2 h3 h4 _ ih =>
    have h5 := pr_len r
    have h6 := @enc_size r
    simp only [List.length_append]
    omega
  | @u a b c d t l h1 h2 h3 h4 _ ih =>
    simp only [List.length_cons]
    omega
  | @e c t l h1 _ ih =>
    simp only [List.length_cons]
    omega
theorem enc_low {c : Int} (h : c < 128) : enc c = [c] := by
  unfold enc
  rw [if_pos h]
/-- A text that stands for units is UTF-8. -/
theorem reads_cps {t l : List Int} (h : Reads t l) : ∃ rs, (∀ r ∈ rs, isCp r) ∧ encAll rs = t := by
  have low : ∀ {c : Int} {rs : List Int}, 0 ≤ c → c < 128 → (∀ r ∈ rs, isCp r) → (∀ r ∈ c :: rs, isCp r) ∧ encAll (c :: rs) = c :: encAll rs := by
    intro c rs h0 h1 h2
    refine ⟨?_, by rw [encAll_cons, enc_low h1]; rfl⟩
    intro r hr
    rcases List.mem_cons.1 hr with rfl | hr
    · exact ⟨h0, by omega, by omega⟩
    · exact h2 r hr
  induction h with
  | done => exact ⟨[34], by simp [isCp], rfl⟩
  | @cp r t l h1 h2 h3 h4 _ ih =>
    obtain ⟨rs, h5, rfl⟩ := ih
    refine ⟨r :: rs, ?_, encAll_cons _ _⟩
    intro x hx
    rcases List.mem_cons.1 hx with rfl | hx
    · exact h1
    · exact h5 x hx
  | @u a b c d t l h1 h2 h3 h4 _ ih =>
    obtain ⟨rs, h5, rfl⟩ := ih
    have r1 := hexv_range h1
    have r2 := hexv_range h2
    have r3 := hexv_range h3
    have r4 := hexv_range h4
    obtain ⟨p4, q4⟩ := low (c := d) (by omega) (by omega) h5
    obtain ⟨p3, q3⟩ := low (c := c) (by omega) (by omega) p4
    obtain ⟨p2, q2⟩ := low (c := b) (by omega) (by omega) p3
    obtain ⟨p1, q1⟩ := low (c := a) (by omega) (by omega) p2
    obtain ⟨p0, q0⟩ := low (c := 117) (by omega) (by omega) p1
    obtain ⟨p, q⟩ := low (c := 92) (by omega) (by omega) p0
    exact ⟨_, p, by rw [q, q0, q1, q2, q3, q4]⟩
  | @e c t l h1 _ ih =>
    obtain ⟨rs, h5, rfl⟩ := ih
    have r1 := esc_range h1
    obtain ⟨p0, q0⟩ := low (c := c) (by omega) (by omega) h5
    obtain ⟨p, q⟩ := low (c := 92) (by omega) (by omega) p0
    exact ⟨_, p, by rw [q, q0]⟩
theorem enc_high {r : Int} (h : isCp r) (h1 : 128 ≤ r) : ∀ x ∈ enc r, 128 ≤ x := by
  unfold isCp at h
  intro x hx
  unfold enc at hx
  repeat' split at hx
  all_goals simp only [List.mem_cons, List.not_mem_nil, or_false] at hx
  all_goals omega
theorem jt_enc {r : Int} {t : List Int} (h : isCp r) (h32 : 32 ≤ r) (h34 : r ≠ 34) (h92 : r ≠ 92) (ht : Jt t) : Jt (enc r ++ t) := by
  by_cases h1 : r < 128
  · rw [enc_low h1]
    exact Jt.ch h32 h34 h92 ht
  · have key : ∀ p : List Int, (∀ x ∈ p, 128 ≤ x) → Jt (p ++ t) := by
      intro p
      induction p with
      | nil => intro _; exact ht
      | cons a p ih =>
        intro hp
        have := hp a (by simp)
        exact Jt.ch (by omega) (by omega) (by omega) (ih fun x hx => hp x (by simp [hx]))
    exact key _ (enc_high h (by omega))
theorem reads_jt {t l : List Int} (h : Reads t l) : Jt t := by
  induction h with
  | done => exact Jt.done
  | cp h1 h2 h3 h4 _ ih => exact jt_enc h1 h2 h3 h4 ih
  | u h1 h2 h3 h4 _ ih => exact Jt.u h1 h2 h3 h4 ih
  | e h1 _ ih => exact Jt.e h1 ih
theorem jt_strip {p t : List Int} (hp : ∀ x ∈ p, 128 ≤ x) (h : Jt (p ++ t)) : Jt t := by
  induction p with
  | nil => exact h
  | cons a p ih =>
    have ha := hp a (by simp)
    refine ih (fun x hx => hp x (by simp [hx])) ?_
    generalize hq : a :: p ++ t = q at h
    cases h with
    | done => simp at hq; omega
    | ch _ _ _ h2 =>
      simp only [List.cons_append, List.cons.injEq] at hq
      rw [hq.2]
      exact h2
    | u => simp at hq; omega
    | e => simp at hq; omega
theorem cps_low {rs : List Int} {c : Int} {t : List Int} (hrs : ∀ r ∈ rs, isCp r) (h : encAll rs = c :: t) (hc : c < 128) : ∃ rs', rs = c :: rs' ∧ (∀ r ∈ rs', isCp r) ∧ encAll rs' = t := by
  rcases rs with _ | ⟨r, rs⟩
  · simp [encAll] at h
  · have hr := hrs r (by simp)
    by_cases h1 : r < 128
    · rw [encAll_cons, enc_low h1] at h
      simp only [List.cons_append, List.nil_append, List.cons.injEq] at h
      obtain ⟨rfl, rfl⟩ := h
      exact ⟨rs, rfl, fun x hx => hrs x (by simp [hx]), rfl⟩
    · have h2 := enc_high hr (by omega)
      rcases he : enc r with _ | ⟨x, y⟩
      · have e1 := @enc_size r
        have e2 := size_range r
        rw [he] at e1
        simp at e1
        omega
      · rw [encAll_cons, he] at h
        simp only [List.cons_append, List.cons.injEq] at h
        have := h2 x (by rw [he]; simp)
        omega
/-- A text of code points that is one of JSON stands for units. -/
theorem jt_reads : ∀ (n : Nat) (rs : List Int), (encAll rs).length ≤ n → (∀ r ∈ rs, isCp r) → Jt (encAll rs) → ∃ l, Reads (encAll rs) l := by
  intro n
  induction n with
  | zero =>
    intro rs hn hrs h
    have : encAll rs = [] := List.length_eq_zero_iff.1 (by omega)
    rw [this] at h
    cases h
  | succ n ih =>
    intro rs hn hrs h
    generalize hq : encAll rs = q at h
    cases h with
    | done => exact ⟨[], Reads.done⟩
    | @ch c t h1 h2 h3 h4 =>
      rcases rs with _ | ⟨r, rs⟩
      · simp [encAll] at hq
      · have hr := hrs r (by simp)
        have hrs' : ∀ x ∈ rs, isCp x := fun x hx => hrs x (by simp [hx])
        have hs := @enc_size r
        have hs2 := size_range r
        rw [encAll_cons] at hq hn
        simp only [List.length_append] at hn
        have hj : Jt (encAll rs) ∧ 32 ≤ r ∧ r ≠ 34 ∧ r ≠ 92 := by
          by_cases hlow : r < 128
          · rw [enc_low hlow] at hq
            simp only [List.cons_append, List.nil_append, List.cons.injEq] at hq
            obtain ⟨rfl, rfl⟩ := hq
            exact ⟨h4, h1, h2, h3⟩
          · refine ⟨jt_strip (enc_high hr (by omega)) (t := encAll rs) ?_, by omega, by omega, by omega⟩
            rw [hq]
            exact Jt.ch h1 h2 h3 h4
        obtain ⟨l, hl⟩ := ih rs (by omega) hrs' hj.1
        rw [← hq]
        exact ⟨_, Reads.cp hr hj.2.1 hj.2.2.1 hj.2.2.2 hl⟩
    | @u a b c d t h1 h2 h3 h4 h5 =>
      have r1 := hexv_range h1
      have r2 := hexv_range h2
      have r3 := hexv_range h3
      have r4 := hexv_range h4
      obtain ⟨rs1, _, g1, q1⟩ := cps_low hrs hq (by omega)
      obtain ⟨rs2, _, g2, q2⟩ := cps_low g1 q1 (by omega)
      obtain ⟨rs3, _, g3, q3⟩ := cps_low g2 q2 (by omega)
      obtain ⟨rs4, _, g4, q4⟩ := cps_low g3 q3 (by omega)
      obtain ⟨rs5, _, g5, q5⟩ := cps_low g4 q4 (by omega)
      obtain ⟨rs6, _, g6, q6⟩ := cps_low g5 q5 (by omega)
      rw [hq] at hn
      simp only [List.length_cons] at hn
      obtain ⟨l, hl⟩ := ih rs6 (by rw [q6]; omega) g6 (by rw [q6]; exact h5)
      rw [q6] at hl
      exact ⟨_, Reads.u h1 h2 h3 h4 hl⟩
    | @e c t h1 h2 =>
      have r1 := esc_range h1
      obtain ⟨rs1, _, g1, q1⟩ := cps_low hrs hq (by omega)
      obtain ⟨rs2, _, g2, q2⟩ := cps_low g1 q1 (by omega)
      rw [hq] at hn
      simp only [List.length_cons] at hn
      obtain ⟨l, hl⟩ := ih rs2 (by rw [q2]; omega) g2 (by rw [q2]; exact h2)
      rw [q2] at hl
      exact ⟨_, Reads.e h1 hl⟩
end Go.Proofs.Ytlhhibhcoefolaa.Jstr
