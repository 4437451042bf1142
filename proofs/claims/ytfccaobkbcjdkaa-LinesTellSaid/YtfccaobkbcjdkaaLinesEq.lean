/- The functions of the package lines, as they are printed in plain Lean, answer as the model Lines says. -/
import Derived.Test.YtfccaobkbcjdkaaQx2
import Derived.Test.YtfccaobkbcjdkaaUtfEq
import Derived.Test.YtfccaobkbcjdkaaLines
namespace Go.Proofs.Ytfccaobkbcjdkaa.LinesEq
open Go.RowKit Go.Proofs.YtfccaobkbcjdkaaW.PrintWords Go.Proofs.Ytfccaobkbcjdkaa.Base Go.Proofs.Ytfccaobkbcjdkaa.Utf Go.Proofs.Ytfccaobkbcjdkaa.UtfEq Go.Proofs.Ytfccaobkbcjdkaa.Lines Go.Proofs.Ytfccaobkbcjdkaa.Q

def mkP (p : Int × Int) : S37 := ⟨p.1, p.2⟩
theorem set_get {α : Type} (T : List α) (i j : Nat) (x : α) (hi : i < T.length) : (T.set i x)[j]? = if j = i then some x else T[j]? := by
  rw [List.getElem?_set]
  by_cases h : i = j
  · subst h
    simp [hi]
  · rw [if_neg h, if_neg (fun h2 => h h2.symm)]

/-- The inner loop: the same place for each further byte of a code point. -/
theorem all_l1 (l : List Int) (at0 r m : Int) (e : Nat) (he : at0 + m = (e : Int)) (line col : Int) (hw : e < 1000000000000000) (d : Nat) : ∀ (i : Nat) (T : List S37), i + d = e → e < T.length →
    ∃ T2, T2.length = T.length ∧ (∀ j, T2[j]? = if i ≤ j ∧ j < e then some (mkP (line, col)) else T[j]?) ∧ ∀ R, Evt (fun k => lines_all.l1 k l T2 at0 r m (e : Int) line col) R → Evt (fun k => lines_all.l1 k l T at0 r m (i : Int) line col) R := by
  induction d with
  | zero =>
    intro i T hi hT
    refine ⟨T, rfl, fun j => ?_, fun R h => ?_⟩
    · rw [if_neg (by omega)]
    · obtain rfl : i = e := by omega
      exact h
  | succ d ih =>
    intro i T hi hT
    obtain ⟨T2, h1, h2, h3⟩ := ih (i + 1) (T.set i (mkP (line, col))) (by omega) (by rw [List.length_set]; exact hT)
    refine ⟨T2, by rw [h1, List.length_set], fun j => ?_, fun R h => ?_⟩
    · rw [h2 j, set_get _ _ _ _ (by omega)]
      by_cases h : i + 1 ≤ j ∧ j < e
      · rw [if_pos h, if_pos (by omega)]
      · rw [if_neg h]
        by_cases h4 : j = i
        · rw [if_pos h4, if_pos (by omega)]
        · rw [if_neg h4, if_neg (by omega)]
    · refine Evt.succ ?_
      simp only [lines_all.l1]
      rw [he, wrap64_in (n := (e : Int)) (by omega) (by omega), wrap64_in (n := (i : Int) + 1) (by omega) (by omega)]
      refine Evt.pos (by omega) (Evt.pos (by omega) (Evt.pos (by omega) ?_))
      have := h3 R h
      rw [show ((i + 1 : Nat) : Int) = (i : Int) + 1 by omega] at this
      rw [Int.toNat_natCast]
      exact this

/-- The outer loop, from a place on. -/
theorem all_l0 (n : Nat) : ∀ (t a : List Int) (T : List S37) (p : Int × Int), t.length ≤ n → Bytes (a ++ t) → (a ++ t).length ≤ 140737488351232 → T.length = (a ++ t).length + 1 →
    (0 ≤ p.1 ∧ p.1 ≤ (a.length : Int) ∧ 0 ≤ p.2 ∧ p.2 ≤ 2 * (a.length : Int)) →
    ∃ T', Evt (fun k => lines_all.l0 k (a ++ t) T (a.length : Int) p.1 p.2) T' ∧ T'.length = T.length ∧ (∀ i, i < a.length → T'[i]? = T[i]?) ∧ ∀ j, j ≤ t.length → T'[a.length + j]? = some (mkP (at_ n t j p)) := by
  induction n with
  | zero =>
    intro t a T p hn hb hl hT hp
    have : t = [] := List.length_eq_zero_iff.1 (by omega)
    subst this
    rw [List.append_nil] at hT hl ⊢
    refine ⟨T.set a.length (mkP p), ?_, by rw [List.length_set], fun i hi => ?_, fun j hj => ?_⟩
    · refine Evt.succ ?_
      simp only [lines_all.l0]
      refine Evt.neg (by omega) (Evt.pos (by omega) (Evt.pos (by omega) ?_))
      rw [Int.toNat_natCast]
      exact Evt.const _
    · rw [set_get _ _ _ _ (by omega), if_neg (by omega)]
    · have : j = 0 := by simpa using hj
      subst this
      rw [set_get _ _ _ _ (by omega), if_pos (by omega), at_zero]
  | succ n ih =>
    intro t a T p hn hb hl hT hp
    by_cases ht : t = []
    · subst ht
      rw [List.append_nil] at hT hl ⊢
      refine ⟨T.set a.length (mkP p), ?_, by rw [List.length_set], fun i hi => ?_, fun j hj => ?_⟩
      · refine Evt.succ ?_
        simp only [lines_all.l0]
        refine Evt.neg (by omega) (Evt.pos (by omega) (Evt.pos (by omega) ?_))
        rw [Int.toNat_natCast]
        exact Evt.const _
      · rw [set_get _ _ _ _ (by omega), if_neg (by omega)]
      · have : j = 0 := by simpa using hj
        subst this
        rw [set_get _ _ _ _ (by omega), if_pos (by omega), at_zero]
    -- a code point of m bytes
    have hdl := dec_len hb.right ht
    have hnx := next_ev (a ++ t) hb (by omega) (a.length : Int)
    rw [nx_at] at hnx
    obtain ⟨m, hm⟩ := Int.eq_ofNat_of_zero_le (show 0 ≤ (dec t).2.1 by omega)
    have hu := units_range (dec t).1
    have hlen : (a ++ t).length = a.length + t.length := List.length_append
    obtain ⟨c, u, hcu, hcl⟩ : ∃ c u, t = c ++ u ∧ c.length = m := ⟨t.take m, t.drop m, (List.take_append_drop m t).symm, by rw [List.length_take]; omega⟩
    have hdrop : t.drop (dec t).2.1.toNat = u := by
      have : (dec t).2.1.toNat = c.length := by omega
      rw [this]
      conv => lhs; rw [hcu]
      exact List.drop_left
    have hlc : t.length = c.length + u.length := by rw [hcu, List.length_append]
    -- the first store, and the inner loop
    obtain ⟨T2, h1, h2, h3⟩ := all_l1 (a ++ t) (a.length : Int) (dec t).1 (dec t).2.1 (a.length + m) (by omega) p.1 (p.2 + units (dec t).1) (by omega) (m - 1) (a.length + 1) (T.set a.length (mkP p)) (by omega) (by rw [List.length_set]; omega)
    rw [List.length_set] at h1
    have hsr := @stp_range p (dec t).1 u (a.length : Int) hp
    -- what follows
    have hat : a ++ t = (a ++ c) ++ u := by rw [hcu, List.append_assoc]
    obtain ⟨T', g1, g2, g3, g4⟩ := ih u (a ++ c) T2 (stp p (dec t).1 u) (by omega) (by rw [← hat]; exact hb) (by rw [← hat]; exact hl) (by rw [← hat, h1, hT]) (by rw [List.length_append]; omega)
    rw [← hat] at g1
    refine ⟨T', ?_, by rw [g2, h1], fun i hi => ?_, fun j hj => ?_⟩
    · refine Evt.succ ?_
      simp only [lines_all.l0]
      refine Evt.pos (by omega) (Evt.bind hnx (Evt.pos (by omega) (Evt.pos (by omega) ?_)))
      simp only [units_eq, Option.bind_some]
      change Evt (fun k => lines_all.l1 k (a ++ t) (T.set ((a.length : Int)).toNat (mkP p)) (a.length : Int) (dec t).1 (dec t).2.1 (wrap64 ((a.length : Int) + 1)) p.1 (wrap64 (p.2 + units (dec t).1))) T'
      rw [wrap64_in (n := (a.length : Int) + 1) (by omega) (by omega), wrap64_in (n := p.2 + units (dec t).1) (by omega) (by omega), Int.toNat_natCast]
      refine h3 _ ?_
      -- behind the code point
      have hac : ((a ++ c).length : Int) = ((a.length + m : Nat) : Int) := by rw [List.length_append]; omega
      rw [hac] at g1
      have hhead : rd (a ++ t) ((a.length + m : Nat) : Int) = u.head?.getD 0 := by
        rw [hat, show ((a.length + m : Nat) : Int) = ((a ++ c).length : Int) by rw [hac]]
        cases u with
        | nil => rw [List.append_nil]; exact rd_end _
        | cons x u => exact rd_append _ _ _
      refine Evt.succ ?_
      simp only [lines_all.l1]
      rw [show (a.length : Int) + (dec t).2.1 = ((a.length + m : Nat) : Int) by omega, wrap64_in (n := ((a.length + m : Nat) : Int)) (by omega) (by omega)]
      refine Evt.neg (by omega) ?_
      by_cases r10 : (dec t).1 = 10
      · refine Evt.pos r10 ?_
        have : stp p (dec t).1 u = (p.1 + 1, 0) := if_pos (Or.inl r10)
        rw [this] at g1
        rw [wrap64_in (n := p.1 + 1) (by omega) (by omega)]
        exact g1
      refine Evt.neg r10 ?_
      by_cases r13 : (dec t).1 = 13
      · refine Evt.pos r13 ?_
        rw [wrap64_in (n := p.1 + 1) (by omega) (by omega)]
        by_cases hend : ((a.length + m : Nat) : Int) = ((a ++ t).length : Int)
        · refine Evt.pos hend ?_
          have hu0 : u = [] := List.length_eq_zero_iff.1 (by omega)
          have : stp p (dec t).1 u = (p.1 + 1, 0) := if_pos (Or.inr ⟨r13, by rw [hu0]; simp⟩)
          rw [this] at g1
          exact g1
        · refine Evt.neg hend (Evt.pos (by omega) (Evt.pos (by omega) ?_))
          rw [hhead]
          by_cases h10 : u.head?.getD 0 = 10
          · refine Evt.pos h10 ?_
            have hh : u.head? = some 10 := by
              cases u with
              | nil => simp at h10
              | cons x u => simp at h10 ⊢; exact h10
            have : stp p (dec t).1 u = (p.1, p.2 + units (dec t).1) := if_neg (by rintro (h | ⟨_, h⟩); exact r10 h; exact h hh)
            rw [this] at g1
            exact g1
          · refine Evt.neg h10 ?_
            have : stp p (dec t).1 u = (p.1 + 1, 0) := if_pos (Or.inr ⟨r13, by intro h; rw [h] at h10; exact h10 rfl⟩)
            rw [this] at g1
            exact g1
      refine Evt.neg r13 ?_
      have : stp p (dec t).1 u = (p.1, p.2 + units (dec t).1) := if_neg (by rintro (h | ⟨h, _⟩); exact r10 h; exact r13 h)
      rw [this] at g1
      exact g1
    · rw [g3 i (by rw [List.length_append]; omega), h2 i, if_neg (by omega), set_get _ _ _ _ (by omega), if_neg (by omega)]
    · by_cases hj0 : j = 0
      · subst hj0
        rw [at_zero, g3 _ (by rw [List.length_append]; omega), h2, if_neg (by omega), set_get _ _ _ _ (by omega), if_pos (by omega)]
      by_cases hjm : j < m
      · rw [at_in p hj0 ht (by omega), g3 _ (by rw [List.length_append]; omega), h2, if_pos (by omega)]
      · rw [at_out p hj0 ht (by omega), hdrop]
        have := g4 (j - m) (by omega)
        rw [List.length_append, show a.length + c.length + (j - m) = a.length + j by omega] at this
        rw [this, show (dec t).2.1.toNat = m by omega]

/-- The place of a byte of a text. -/
def place (l : List Int) (off : Nat) : Int × Int := at_ l.length l off (0, 0)
theorem all_ev (l : List Int) (hb : Bytes l) (hl : l.length ≤ 10000000000) : ∃ T, Evt (fun k => lines_all.f k l) T ∧ T.length = l.length + 1 ∧ ∀ j, j ≤ l.length → T[j]? = some (mkP (place l j)) := by
  obtain ⟨T, h1, h2, _, h4⟩ := all_l0 l.length l [] (List.replicate (l.length + 1) z37) (0, 0) (Nat.le_refl _) hb (by simp only [List.nil_append]; omega) (by simp) (by simp)
  refine ⟨T, ?_, by rw [h2]; simp, fun j hj => ?_⟩
  · simp only [lines_all.f]
    rw [wrap64_in (n := (l.length : Int) + 1) (by omega) (by omega), show ((l.length : Int) + 1).toNat = l.length + 1 by omega]
    exact Evt.pos (by omega) (Evt.pos (by omega) h1)
  · have := h4 j hj
    rw [List.length_nil, Nat.zero_add] at this
    exact this
theorem place_range (l : List Int) (hb : Bytes l) (off : Nat) : 0 ≤ (place l off).1 ∧ (place l off).1 ≤ (l.length : Int) ∧ 0 ≤ (place l off).2 ∧ (place l off).2 ≤ 2 * (l.length : Int) := by
  have key : ∀ (n : Nat) (t : List Int) (off : Nat) (p : Int × Int) (B : Int), t.length ≤ n → Bytes t → (0 ≤ p.1 ∧ p.1 ≤ B ∧ 0 ≤ p.2 ∧ p.2 ≤ 2 * B) →
      0 ≤ (at_ n t off p).1 ∧ (at_ n t off p).1 ≤ B + (t.length : Int) ∧ 0 ≤ (at_ n t off p).2 ∧ (at_ n t off p).2 ≤ 2 * (B + (t.length : Int)) := by
    intro n
    induction n with
    | zero =>
      intro t off p B _ _ hp
      simp only [at_]
      omega
    | succ n ih =>
      intro t off p B hn hb hp
      by_cases h0 : off = 0
      · subst h0
        rw [at_zero]
        omega
      by_cases hl : t = []
      · subst hl
        rw [at_nil]
        omega
      have hd := dec_len hb hl
      by_cases h : off < (dec t).2.1.toNat
      · have hu := units_range (dec t).1
        rw [at_in p h0 hl h]
        simp only
        omega
      · rw [at_out p h0 hl (by omega)]
        have hs := @stp_range p (dec t).1 (t.drop (dec t).2.1.toNat) B hp
        have := ih (t.drop (dec t).2.1.toNat) (off - (dec t).2.1.toNat) (stp p (dec t).1 (t.drop (dec t).2.1.toNat)) (B + 1) (by rw [List.length_drop]; omega) (hb.drop _) (by omega)
        rw [List.length_drop] at this
        omega
  have := key l.length l off (0, 0) 0 (Nat.le_refl _) hb (by simp)
  simp only [Int.zero_add] at this
  exact this
theorem rd_place {T : List S37} {l : List Int} {i : Int} {j : Nat} (h : T[j]? = some (mkP (place l j))) (hi : i = (j : Int)) : rd_T37 T i = mkP (place l j) := by
  subst hi
  simp [rd_T37, List.getD_eq_getElem?_getD, h]
/-- lines.At: an offset is brought within the text. -/
def clip (l : List Int) (off : Int) : Nat := (max 0 (min off (l.length : Int))).toNat
theorem clip_le (l : List Int) (off : Int) : clip l off ≤ l.length := by
  unfold clip
  omega
theorem mx_clip (l : List Int) (off : Int) : mx 0 (mn off (l.length : Int)) = (clip l off : Int) := by
  unfold mx mn clip
  (repeat' split) <;> omega
theorem at_ev (l : List Int) (hb : Bytes l) (hl : l.length ≤ 10000000000) (off : Int) : Evt (fun k => lines_At.f k l off) (place l (clip l off)) := by
  obtain ⟨T, h1, h2, h3⟩ := all_ev l hb hl
  have hc := clip_le l off
  simp only [lines_At.f, mx_clip]
  refine Evt.bind h1 (Evt.pos (by omega) (Evt.pos (by omega) ?_))
  simp only [rd_place (h3 _ hc) rfl]
  exact Evt.const _
theorem count_ev (l : List Int) (hb : Bytes l) (hl : l.length ≤ 10000000000) : Evt (fun k => lines_Count.f k l) ((place l l.length).1 + 1) := by
  obtain ⟨T, h1, h2, h3⟩ := all_ev l hb hl
  have hr := place_range l hb l.length
  simp only [lines_Count.f]
  refine Evt.bind h1 (Evt.pos (by omega) (Evt.pos (by omega) ?_))
  simp only [rd_place (h3 _ (Nat.le_refl _)) rfl, mkP]
  rw [wrap64_in (by omega) (by omega)]
  exact Evt.const _
theorem at_in_ev (l : List Int) (hb : Bytes l) (hl : l.length ≤ 10000000000) (off : Int) (j : Nat) (h0 : off = (j : Int)) (hj : j ≤ l.length) : Evt (fun k => lines_At.f k l off) (place l j) := by
  have := at_ev l hb hl off
  have e : clip l off = j := by unfold clip; omega
  rw [e] at this
  exact this
end Go.Proofs.Ytfccaobkbcjdkaa.LinesEq
