/- The input of a style sheet in plain Lean: which code points any bytes are. No program stands here. -/
import Derived.Test.YtelgddealjbgiaaDoorUtf
namespace Go.Proofs.YtelgddealjbgiaaDoor.Cinput
open Go.RowKit Go.Proofs.YtelgddealjbgiaaDoor.Base Go.Proofs.YtelgddealjbgiaaDoor.Utf

/-- A code point, as the input has it. -/
def cr (r : Int) : Int := if r = 0 then 65533 else if r = 12 then 10 else if r = 13 then 10 else r
/-- The code points of a text, each with the place where it begins (i: the text's own). -/
def runes : Nat → List Int → Int → List (Int × Int)
  | 0, _, _ => []
  | n + 1, l, i =>
    if l = [] then []
    else if (dec l).1 = 13 ∧ (l.drop (dec l).2.1.toNat).head? = some 10 then (10, i) :: runes n ((l.drop (dec l).2.1.toNat).drop 1) (i + (dec l).2.1 + 1)
    else (cr (dec l).1, i) :: runes n (l.drop (dec l).2.1.toNat) (i + (dec l).2.1)
theorem runes_nil (n : Nat) (i : Int) : runes n [] i = [] := by
  cases n <;> simp [runes]
theorem runes_pair {n : Nat} {l : List Int} {i : Int} (h : l ≠ []) (h13 : (dec l).1 = 13 ∧ (l.drop (dec l).2.1.toNat).head? = some 10) : runes (n + 1) l i = (10, i) :: runes n ((l.drop (dec l).2.1.toNat).drop 1) (i + (dec l).2.1 + 1) := by
  simp only [runes]
  rw [if_neg h, if_pos h13]
theorem runes_one {n : Nat} {l : List Int} {i : Int} (h : l ≠ []) (h13 : ¬ ((dec l).1 = 13 ∧ (l.drop (dec l).2.1.toNat).head? = some 10)) : runes (n + 1) l i = (cr (dec l).1, i) :: runes n (l.drop (dec l).2.1.toNat) (i + (dec l).2.1) := by
  simp only [runes]
  rw [if_neg h, if_neg h13]
theorem cr_ok {l : List Int} (hb : Bytes l) (h : l ≠ []) : isCp (cr (dec l).1) ∧ cr (dec l).1 ≠ 0 ∧ cr (dec l).1 ≠ 12 ∧ cr (dec l).1 ≠ 13 := by
  have hr : isCp (dec l).1 := by
    rcases hd : dec l with ⟨r, n, ok⟩
    cases ok with
    | true => exact (enc_dec hb hd).1
    | false =>
      have := dec_false h (by rw [hd])
      rw [hd] at this
      simp only [bad, Prod.mk.injEq] at this
      show isCp r
      rw [this.1]
      decide
  unfold isCp at hr
  unfold cr isCp
  (repeat' split) <;> omega
/-- What the code points of any bytes are. -/
theorem runes_ok (n : Nat) : ∀ (l : List Int) (i : Int), Bytes l → ∀ x ∈ runes n l i, isCp x.1 ∧ x.1 ≠ 0 ∧ x.1 ≠ 12 ∧ x.1 ≠ 13 := by
  induction n with
  | zero => intro l i _ x hx; simp [runes] at hx
  | succ n ih =>
    intro l i hb x hx
    by_cases hl : l = []
    · subst hl
      rw [runes_nil] at hx
      simp at hx
    by_cases h13 : (dec l).1 = 13 ∧ (l.drop (dec l).2.1.toNat).head? = some 10
    · rw [runes_pair hl h13] at hx
      rcases List.mem_cons.1 hx with rfl | h
      · exact ⟨show isCp 10 by decide, show (10 : Int) ≠ 0 by decide, show (10 : Int) ≠ 12 by decide, show (10 : Int) ≠ 13 by decide⟩
      · exact ih _ _ ((hb.drop _).drop _) x h
    · rw [runes_one hl h13] at hx
      rcases List.mem_cons.1 hx with rfl | h
      · exact cr_ok hb hl
      · exact ih _ _ (hb.drop _) x h
/-- Places rise, and lie within the text. -/
def Rises : Int → Int → List (Int × Int) → Prop
  | _, _, [] => True
  | a, e, x :: t => a < x.2 ∧ x.2 < e ∧ Rises x.2 e t
theorem Rises.mono {a b e : Int} (h : a ≤ b) {l : List (Int × Int)} (hl : Rises b e l) : Rises a e l := by
  cases l with
  | nil => trivial
  | cons x t => exact ⟨by have := hl.1; omega, hl.2⟩
theorem runes_rise (n : Nat) : ∀ (l : List Int) (i : Int), Bytes l → Rises (i - 1) (i + (l.length : Int)) (runes n l i) := by
  induction n with
  | zero => intro l i _; exact trivial
  | succ n ih =>
    intro l i hb
    by_cases hl : l = []
    · subst hl
      rw [runes_nil]
      exact trivial
    have hd := dec_len hb hl
    have hlen : 0 < l.length := List.length_pos_iff.2 hl
    by_cases h13 : (dec l).1 = 13 ∧ (l.drop (dec l).2.1.toNat).head? = some 10
    · rw [runes_pair hl h13]
      refine ⟨by simp only; omega, by simp only; omega, ?_⟩
      have h1 := ih ((l.drop (dec l).2.1.toNat).drop 1) (i + (dec l).2.1 + 1) ((hb.drop _).drop _)
      have hne : 0 < (l.drop (dec l).2.1.toNat).length := by
        rcases hu : l.drop (dec l).2.1.toNat with _ | ⟨c, t⟩
        · rw [hu] at h13
          simp at h13
        · simp
      rw [List.length_drop] at hne
      rw [List.length_drop, List.length_drop] at h1
      refine Rises.mono (b := i + (dec l).2.1 + 1 - 1) (by simp only; omega) (by rw [show i + (l.length : Int) = i + (dec l).2.1 + 1 + ((l.length - (dec l).2.1.toNat - 1 : Nat) : Int) by omega]; exact h1)
    · rw [runes_one hl h13]
      refine ⟨by simp only; omega, by simp only; omega, ?_⟩
      have h1 := ih (l.drop (dec l).2.1.toNat) (i + (dec l).2.1) (hb.drop _)
      rw [List.length_drop] at h1
      refine Rises.mono (b := i + (dec l).2.1 - 1) (by simp only; omega) (by rw [show i + (l.length : Int) = i + (dec l).2.1 + ((l.length - (dec l).2.1.toNat : Nat) : Int) by omega]; exact h1)
theorem runes_length (n : Nat) : ∀ (l : List Int) (i : Int), (runes n l i).length ≤ n := by
  induction n with
  | zero => intro l i; simp [runes]
  | succ n ih =>
    intro l i
    simp only [runes]
    split
    · simp
    · split
      · simp only [List.length_cons]
        have := ih ((l.drop (dec l).2.1.toNat).drop 1) (i + (dec l).2.1 + 1)
        omega
      · simp only [List.length_cons]
        have := ih (l.drop (dec l).2.1.toNat) (i + (dec l).2.1)
        omega
/-- Code points that stand as they are: places of what was written. -/
def spots : List Int → Int → List (Int × Int)
  | [], _ => []
  | r :: rs, i => (r, i) :: spots rs (i + size r)
theorem enc_head {r : Int} (hr : isCp r) (t : List Int) (h : (enc r ++ t).head? = some 10) : r = 10 := by
  unfold isCp at hr
  unfold enc at h
  (repeat' split at h) <;> (simp only [List.cons_append, List.nil_append, List.head?_cons, Option.some.injEq] at h; omega)
theorem dec_drop {r : Int} (hr : isCp r) (t : List Int) : (enc r ++ t).drop (dec (enc r ++ t)).2.1.toNat = t := by
  rw [dec_enc hr]
  have := @enc_size r
  simp only
  rw [show (size r).toNat = (enc r).length by omega, List.drop_left]
theorem enc_ne (r : Int) (t : List Int) : enc r ++ t ≠ [] := by
  intro h
  have h1 := @enc_size r
  have h2 := size_range r
  have := congrArg List.length h
  rw [List.length_append, List.length_nil] at this
  omega
theorem runes_spots (rs : List Int) : ∀ (n : Nat) (i : Int), (∀ r ∈ rs, isCp r ∧ r ≠ 0 ∧ r ≠ 12 ∧ r ≠ 13) → rs.length ≤ n → runes n (encAll rs) i = spots rs i := by
  induction rs with
  | nil => intro n i _ _; rw [encAll_nil, runes_nil]; rfl
  | cons r rs ih =>
    intro n i hr hn
    obtain ⟨n, rfl⟩ : ∃ m, n = m + 1 := ⟨n - 1, by simp only [List.length_cons] at hn; omega⟩
    obtain ⟨h1, h2, h3, h4⟩ := hr r (by simp)
    rw [encAll_cons, runes_one (enc_ne _ _) (by rw [dec_enc h1]; exact fun h => h4 h.1), dec_drop h1, dec_enc h1, ih n _ (fun x hx => hr x (by simp [hx])) (by simp only [List.length_cons] at hn; omega)]
    simp only [spots, cr, if_neg h2, if_neg h3, if_neg h4]
theorem spots_map (rs : List Int) : ∀ i, (spots rs i).map Prod.fst = rs := by
  induction rs with
  | nil => intro i; rfl
  | cons r rs ih => intro i; simp [spots, ih]
theorem runes_fuel (n : Nat) : ∀ (m : Nat) (l : List Int) (i : Int), Bytes l → l.length ≤ n → n ≤ m → runes m l i = runes n l i := by
  induction n with
  | zero =>
    intro m l i _ h _
    have : l = [] := List.length_eq_zero_iff.1 (by omega)
    subst this
    rw [runes_nil, runes_nil]
  | succ n ih =>
    intro m l i hb h hm
    obtain ⟨m, rfl⟩ : ∃ k, m = k + 1 := ⟨m - 1, by omega⟩
    by_cases hl : l = []
    · subst hl
      rw [runes_nil, runes_nil]
    have hd := dec_len hb hl
    by_cases h13 : (dec l).1 = 13 ∧ (l.drop (dec l).2.1.toNat).head? = some 10
    · rw [runes_pair hl h13, runes_pair hl h13, ih _ _ _ ((hb.drop _).drop _) (by rw [List.length_drop, List.length_drop]; omega) (by omega)]
    · rw [runes_one hl h13, runes_one hl h13, ih _ _ _ (hb.drop _) (by rw [List.length_drop]; omega) (by omega)]
theorem runes_shift (n : Nat) : ∀ (l : List Int) (i j : Int), runes n l (i + j) = (runes n l i).map fun x => (x.1, x.2 + j) := by
  induction n with
  | zero => intro l i j; rfl
  | succ n ih =>
    intro l i j
    by_cases hl : l = []
    · subst hl
      rw [runes_nil, runes_nil]
      rfl
    by_cases h13 : (dec l).1 = 13 ∧ (l.drop (dec l).2.1.toNat).head? = some 10
    · rw [runes_pair hl h13, runes_pair hl h13, List.map_cons, ← ih, show i + (dec l).2.1 + 1 + j = i + j + (dec l).2.1 + 1 by omega]
    · rw [runes_one hl h13, runes_one hl h13, List.map_cons, ← ih, show i + (dec l).2.1 + j = i + j + (dec l).2.1 by omega]
/-- Texts one behind the other: the first is whole, and doesn't end with a byte 13. -/
theorem runes_join (k : Nat) : ∀ (rs t : List Int) (n : Nat) (i : Int), rs.length ≤ k → (∀ r ∈ rs, isCp r) → rs.getLast? ≠ some 13 → Bytes t → (encAll rs ++ t).length ≤ n →
    runes n (encAll rs ++ t) i = runes n (encAll rs) i ++ runes n t (i + ((encAll rs).length : Int)) := by
  induction k with
  | zero =>
    intro rs t n i hk _ _ _ _
    have : rs = [] := List.length_eq_zero_iff.1 (by omega)
    subst this
    rw [encAll_nil, runes_nil, List.nil_append, List.nil_append, List.length_nil]
    simp
  | succ k ih =>
    intro rs t n i hk hr hlast ht hn
    rcases rs with _ | ⟨r, rs⟩
    · rw [encAll_nil, runes_nil, List.nil_append, List.nil_append, List.length_nil]
      simp
    have hcp := hr r (by simp)
    have hrs : ∀ x ∈ rs, isCp x := fun x hx => hr x (by simp [hx])
    have h1 := @enc_size r
    have h2 := size_range r
    rw [encAll_cons, List.append_assoc] at hn ⊢
    rw [List.length_append] at hn
    obtain ⟨n, rfl⟩ : ∃ m, n = m + 1 := ⟨n - 1, by omega⟩
    have hbrs := encAll_bytes hrs
    have more : ∀ (q : List Int) (j : Int), (∀ x ∈ q, isCp x) → q.length ≤ k → q.getLast? ≠ some 13 → (encAll q ++ t).length ≤ n →
        runes n (encAll q ++ t) j = runes n (encAll q) j ++ runes (n + 1) t (j + ((encAll q).length : Int)) := by
      intro q j hq hqk hql hqn
      rw [ih q t n j hqk hq hql ht hqn, runes_fuel n (n + 1) t _ ht (by rw [List.length_append] at hqn; omega) (by omega)]
    by_cases h13 : r = 13 ∧ (encAll rs ++ t).head? = some 10
    · obtain ⟨rfl, hh⟩ := h13
      rcases rs with _ | ⟨r2, rs⟩
      · exact absurd rfl hlast
      have hcp2 := hrs r2 (by simp)
      have hh2 : (encAll (r2 :: rs)).head? = some 10 := by
        rw [encAll_cons] at hh ⊢
        rcases he : enc r2 with _ | ⟨c, e⟩
        · have := @enc_size r2
          have := size_range r2
          rw [he] at *
          simp at *
          omega
        · rw [he] at hh
          simpa using hh
      have h10 : r2 = 10 := by
        rw [encAll_cons] at hh2
        exact enc_head hcp2 _ hh2
      subst h10
      have e10 : enc 10 = [10] := by decide
      have hl2 : rs.getLast? ≠ some 13 := by
        rcases rs with _ | ⟨r3, rs⟩
        · simp
        · simpa [List.getLast?_cons_cons] using hlast
      rw [runes_pair (enc_ne _ _) (by rw [dec_enc hcp, ← dec_enc hcp (encAll (10 :: rs) ++ t), dec_drop hcp]; exact ⟨by rw [dec_enc hcp], hh⟩), dec_drop hcp, dec_enc hcp]
      rw [runes_pair (enc_ne _ _) (by rw [dec_drop hcp]; exact ⟨by rw [dec_enc hcp], hh2⟩), dec_drop hcp, dec_enc hcp]
      simp only [encAll_cons, e10, List.cons_append, List.nil_append, List.drop_succ_cons, List.drop_zero, List.cons.injEq, true_and]
      rw [more rs _ (fun x hx => hrs x (by simp [hx])) (by simp only [List.length_cons] at hk; omega) hl2 (by simp only [encAll_cons, e10, List.cons_append, List.nil_append, List.length_cons] at hn; omega)]
      have e1 : (enc 13).length = 1 := by decide
      have e2 : size 13 = 1 := by decide
      simp only [List.length_append, List.length_cons, e1, e2]
      congr 2
      omega
    · have hlast2 : rs.getLast? ≠ some 13 := by
        rcases rs with _ | ⟨r3, rs⟩
        · simp
        · simpa [List.getLast?_cons_cons] using hlast
      have h13' : ¬ (r = 13 ∧ (encAll rs).head? = some 10) := by
        rintro ⟨ha, hb⟩
        apply h13
        refine ⟨ha, ?_⟩
        rcases he : encAll rs with _ | ⟨c, e⟩
        · rw [he] at hb
          simp at hb
        · rw [he] at hb
          simpa using hb
      rw [runes_one (enc_ne _ _) (by rw [dec_drop hcp, dec_enc hcp]; exact h13), runes_one (enc_ne _ _) (by rw [dec_drop hcp, dec_enc hcp]; exact h13'), dec_drop hcp, dec_drop hcp, dec_enc hcp, dec_enc hcp]
      rw [more rs _ hrs (by simp only [List.length_cons] at hk; omega) hlast2 (by omega)]
      simp only [List.cons_append, List.length_append]
      congr 3
      omega
end Go.Proofs.YtelgddealjbgiaaDoor.Cinput
