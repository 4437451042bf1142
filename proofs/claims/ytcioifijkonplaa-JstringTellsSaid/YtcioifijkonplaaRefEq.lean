/- The reference's functions for UTF-8, as they are printed in plain Lean, answer as the model Utf says. -/
import Derived.Test.YtcioifijkonplaaQx11
import Derived.Test.YtcioifijkonplaaQx12
import Derived.Test.YtcioifijkonplaaQx13
import Derived.Test.YtcioifijkonplaaQx9
import Derived.Test.YtcioifijkonplaaUtfEq
namespace Go.Proofs.Ytcioifijkonplaa.RefEq
open Go.RowKit Go.Proofs.YtcioifijkonplaaW.PrintWords Go.Proofs.Ytcioifijkonplaa.Base Go.Proofs.Ytcioifijkonplaa.Utf Go.Proofs.Ytcioifijkonplaa.UtfEq Go.Proofs.Ytcioifijkonplaa.Q

theorem ref_put_j1 {l : List Int} {r : Int} (h : isCp r) (hl : l.length < 140737488355000) : Evt (fun k => abridgerref1_Put.j1 k l r) (l ++ enc r) := by
  apply Evt.succ
  have h' := h
  unfold isCp at h'
  simp only [abridgerref1_Put.j1, Option.bind_some]
  by_cases c1 : r < 128
  · rw [if_pos c1, if_pos (by omega), bytes1 h c1]; exact Evt.const _
  rw [if_neg c1]
  by_cases c2 : r < 2048
  · rw [if_pos c2, if_pos (by simp only [List.length_cons, List.length_nil]; omega), bytes2 h (by omega) (by omega)]; exact Evt.const _
  rw [if_neg c2]
  by_cases c3 : r < 65536
  · rw [if_pos c3, if_pos (by simp only [List.length_cons, List.length_nil]; omega), bytes3 h (by omega) (by omega)]; exact Evt.const _
  rw [if_neg c3, if_pos (by simp only [List.length_cons, List.length_nil]; omega), bytes4 h (by omega)]; exact Evt.const _
theorem ref_put_ev (l : List Int) (r : Int) (hl : l.length < 140737488355000) : Evt (fun k => abridgerref1_Put.f k l r) (l ++ put r) := by
  have hbad : ¬ isCp r → Evt (fun k => abridgerref1_Put.j0 k l r true) (l ++ put r) := by
    intro h
    refine Evt.succ ?_
    simp only [abridgerref1_Put.j0, if_true]
    unfold put fix
    rw [if_neg h]
    exact ref_put_j1 (by decide) hl
  have hgood : isCp r → Evt (fun k => abridgerref1_Put.j0 k l r false) (l ++ put r) := by
    intro h
    refine Evt.succ ?_
    simp only [abridgerref1_Put.j0, Bool.false_eq_true, if_false]
    unfold put fix
    rw [if_pos h]
    exact ref_put_j1 h hl
  simp only [abridgerref1_Put.f]
  by_cases h1 : r < 0
  · exact Evt.pos h1 (hbad (by unfold isCp; omega))
  refine Evt.neg h1 ?_
  by_cases h2 : r > 1114111
  · exact Evt.pos h2 (hbad (by unfold isCp; omega))
  refine Evt.neg h2 ?_
  by_cases h3 : r ≥ 55296
  · refine Evt.pos h3 ?_
    by_cases h4 : r < 57344
    · rw [decide_eq_true h4]
      exact hbad (by unfold isCp; omega)
    · rw [decide_eq_false h4]
      exact hgood (by unfold isCp; omega)
  · exact Evt.neg h3 (hgood (by unfold isCp; omega))
theorem rmask (c : Int) (h0 : 0 ≤ c) (h1 : c < 256) : bits .and .i64 c 31 = c % 32 ∧ bits .and .i64 c 15 = c % 16 ∧ bits .and .i64 c 7 = c % 8 :=
  ⟨bits_mask .i64 31 (by decide) wraps_i64 5 (by decide) c h0 (by omega), bits_mask .i64 31 (by decide) wraps_i64 4 (by decide) c h0 (by omega), bits_mask .i64 31 (by decide) wraps_i64 3 (by decide) c h0 (by omega)⟩
theorem tail_in (l : List Int) (j : Nat) (hj : j < l.length) (h0 : 0 ≤ l[j]) (h1 : l[j] < 256) : abridgerref1_tail.f l (j : Int) = some (if cont l[j] then (l[j] - 128, true) else (0, false)) := by
  have hr : rd l (j : Int) = l[j] := by simp [rd, List.getD_eq_getElem?_getD, hj]
  unfold abridgerref1_tail.f
  rw [if_neg (by omega), if_pos (by omega), if_pos (by omega), hr]
  by_cases hk : cont l[j]
  · rw [if_pos ((and_cont h0 h1).2 hk), if_pos hk, u8_and63 l[j] h0 h1]
    unfold cont at hk
    rw [wrap64_in (by omega) (by omega), show l[j] % 64 = l[j] - 128 by omega]
  · rw [if_neg (fun h => hk ((and_cont h0 h1).1 h)), if_neg hk]
theorem tail_out (l : List Int) (j : Int) (hj : (l.length : Int) ≤ j) : abridgerref1_tail.f l j = some (0, false) := by
  unfold abridgerref1_tail.f
  rw [if_pos hj]
/-- One more byte. -/
theorem rl0_in {a t : List Int} {c d : Int} {n x low : Int} {i : Nat} {R : Int × Int × Bool} (hc : t[i]? = some d) (hd : 0 ≤ d ∧ d < 256) (hn : ((i : Int) + 1) < n) (hn4 : n ≤ 4) (hx : 0 ≤ x) (hx1 : x < 33554432) (hl : ((a ++ c :: t).length : Int) ≤ 140737488355328)
    (h : cont d → Evt (fun k => abridgerref1_Next.l0 k (a ++ c :: t) (a.length : Int) n (x * 64 + (d - 128)) low ((i : Int) + 2)) R) (hb : ¬ cont d → R = bad) : Evt (fun k => abridgerref1_Next.l0 k (a ++ c :: t) (a.length : Int) n x low ((i : Int) + 1)) R := by
  obtain ⟨hi, hie⟩ := List.getElem?_eq_some_iff.1 hc
  simp only [List.length_append, List.length_cons] at hl
  have hj : a.length + (i + 1) < (a ++ c :: t).length := by simp only [List.length_append, List.length_cons]; omega
  have hg : (a ++ c :: t)[a.length + (i + 1)] = d := by
    rw [List.getElem_append_right (by omega)]
    simp [hie]
  have ht := tail_in (a ++ c :: t) (a.length + (i + 1)) hj (by rw [hg]; exact hd.1) (by rw [hg]; exact hd.2)
  rw [hg] at ht
  refine Evt.succ ?_
  simp only [abridgerref1_Next.l0]
  rw [wrap64_in (n := (a.length : Int) + ((i : Int) + 1)) (by omega) (by omega), show (a.length : Int) + ((i : Int) + 1) = ((a.length + (i + 1) : Nat) : Int) by omega, ht]
  refine Evt.pos hn ?_
  by_cases hk : cont d
  · have hk' := hk
    unfold cont at hk'
    simp only [if_pos hk, Option.bind_some, if_true]
    rw [wrap64_in (n := x * 64) (by omega) (by omega), wrap64_in (n := (i : Int) + 1 + 1) (by omega) (by omega), i64_or6 hx hx1 (by omega) (by omega), show (i : Int) + 1 + 1 = (i : Int) + 2 by omega]
    exact h hk
  · simp only [if_neg hk, Option.bind_some, Bool.false_eq_true, if_false]
    rw [hb hk]
    exact Evt.const _
/-- No more bytes. -/
theorem rl0_out {a t : List Int} {c : Int} {n x low : Int} {i : Nat} (hi : t.length ≤ i) (hi4 : i ≤ 4) (hn : ((i : Int) + 1) < n) (hl : ((a ++ c :: t).length : Int) ≤ 140737488355328) : Evt (fun k => abridgerref1_Next.l0 k (a ++ c :: t) (a.length : Int) n x low ((i : Int) + 1)) bad := by
  simp only [List.length_append, List.length_cons] at hl
  refine Evt.succ ?_
  simp only [abridgerref1_Next.l0]
  rw [wrap64_in (n := (a.length : Int) + ((i : Int) + 1)) (by omega) (by omega), tail_out _ _ (by simp only [List.length_append, List.length_cons]; omega)]
  refine Evt.pos hn ?_
  simp only [Option.bind_some, Bool.false_eq_true, if_false]
  exact Evt.const _
/-- All bytes are there. -/
theorem rl0_end {l : List Int} {i n x low : Int} (hx : 0 ≤ x) : Evt (fun k => abridgerref1_Next.l0 k l i n x low n) (if low ≤ x ∧ isCp x then (x, n, true) else bad) := by
  refine Evt.succ ?_
  simp only [abridgerref1_Next.l0]
  refine Evt.neg (by omega) ?_
  refine Evt.of ?_
  unfold bad
  by_cases c1 : x < low
  · rw [if_pos c1, if_neg (by omega)]
  rw [if_neg c1]
  by_cases c2 : x > 1114111
  · rw [if_pos c2, if_neg (by unfold isCp; omega)]
  rw [if_neg c2]
  by_cases c3 : x ≥ 55296
  · rw [if_pos c3]
    by_cases c4 : x < 57344
    · rw [if_pos c4, if_neg (by unfold isCp; omega)]
    · rw [if_neg c4, if_pos (by unfold isCp; omega)]
  · rw [if_neg c3, if_pos (by unfold isCp; omega)]
theorem fin_low {n x low : Int} (hx : 0 ≤ x) (hlow : (n = 1 ∧ low = 0 ∧ x < 128) ∨ (n = 2 ∧ low = 128 ∧ x < 2048) ∨ (n = 3 ∧ low = 2048 ∧ x < 65536) ∨ (n = 4 ∧ low = 65536)) : (if low ≤ x ∧ isCp x then (x, n, true) else bad) = fin x n := by
  unfold fin
  by_cases h : isCp x
  · by_cases h2 : low ≤ x
    · rw [if_pos ⟨h2, h⟩, if_pos ⟨h, by unfold size; (repeat' split) <;> omega⟩]
    · rw [if_neg (fun h3 => h2 h3.1), if_neg (fun h3 => h2 (by have := h3.2; unfold size at this; (repeat' split at this) <;> omega))]
  · rw [if_neg (fun h3 => h h3.2), if_neg (fun h3 => h h3.1)]
theorem ref_next_at (a : List Int) (c : Int) (t : List Int) (hb : Bytes (c :: t)) (hl : ((a ++ c :: t).length : Int) ≤ 140737488355328) : Evt (fun k => abridgerref1_Next.f k (a ++ c :: t) (a.length : Int)) (dec (c :: t)) := by
  have hc := hb.head
  have ht := hb.tail
  have hl' := hl
  simp only [List.length_append, List.length_cons] at hl'
  obtain ⟨k31, k15, k7⟩ := rmask c hc.1 hc.2
  simp only [abridgerref1_Next.f]
  refine Evt.neg (by omega) ?_
  rw [decide_eq_false (by simp only [List.length_append, List.length_cons]; omega)]
  refine Evt.succ ?_
  simp only [abridgerref1_Next.j0, rd_append]
  refine Evt.neg (by decide) (Evt.pos (by omega) (Evt.pos (by simp only [List.length_append, List.length_cons]; omega) ?_))
  rw [wrap64_in (n := c) (by omega) (by omega)]
  have j3 : ∀ n x low : Int, ∀ R, Evt (fun k => abridgerref1_Next.l0 k (a ++ c :: t) (a.length : Int) n x low 1) R → Evt (fun k => abridgerref1_Next.j3 k (a ++ c :: t) (a.length : Int) n x low) R := by
    intro n x low R h
    refine Evt.succ ?_
    simp only [abridgerref1_Next.j3]
    exact h
  simp only [dec]
  by_cases c1 : c < 128
  · rw [if_pos c1]
    refine Evt.pos c1 (j3 _ _ _ _ ?_)
    have := @rl0_end (a ++ c :: t) (a.length : Int) 1 c 0 hc.1
    rw [fin_low hc.1 (Or.inl ⟨rfl, rfl, c1⟩), fin, if_pos ⟨by unfold isCp; omega, by unfold size; rw [if_pos c1]⟩] at this
    exact this
  rw [if_neg c1]
  refine Evt.neg c1 ?_
  have byte : ∀ d, d ∈ t → 0 ≤ d ∧ d < 256 := fun d hd => ht d hd
  by_cases c2 : c ≥ 192 ∧ c < 224
  · refine Evt.pos (by omega) ?_
    rw [decide_eq_true (by omega)]
    refine Evt.succ ?_
    simp only [abridgerref1_Next.j1, if_true, k31]
    rw [show c % 32 = c - 192 by omega]
    refine j3 _ _ _ _ ?_
    rcases t with _ | ⟨d, t⟩
    · have h1 := @rl0_out a [] c 2 (c - 192) 128 0 (by simp) (by omega) (by omega) hl
      have : (if 194 ≤ c ∧ c < 224 then bad else if 224 ≤ c ∧ c < 240 then bad else if 240 ≤ c ∧ c < 245 then bad else bad) = bad := by (repeat' split) <;> rfl
      rw [this]
      exact h1
    · have hd := byte d (by simp)
      by_cases c3 : 194 ≤ c
      · simp only [if_pos (show 194 ≤ c ∧ c < 224 by omega)]
        refine @rl0_in a (d :: t) c d 2 (c - 192) 128 0 _ rfl hd (by omega) (by omega) (by omega) (by omega) hl (fun hk => ?_) (fun hk => if_neg hk)
        unfold cont at hk
        have := @rl0_end (a ++ c :: d :: t) (a.length : Int) 2 ((c - 192) * 64 + (d - 128)) 128 (by omega)
        rw [fin_low (by omega) (Or.inr (Or.inl ⟨rfl, rfl, by omega⟩))] at this
        rw [if_pos (show cont d by unfold cont; omega)]
        exact this
      · rw [if_neg (show ¬ (194 ≤ c ∧ c < 224) by omega), if_neg (show ¬ (224 ≤ c ∧ c < 240) by omega), if_neg (show ¬ (240 ≤ c ∧ c < 245) by omega)]
        refine @rl0_in a (d :: t) c d 2 (c - 192) 128 0 _ rfl hd (by omega) (by omega) (by omega) (by omega) hl (fun hk => ?_) (fun hk => rfl)
        unfold cont at hk
        have := @rl0_end (a ++ c :: d :: t) (a.length : Int) 2 ((c - 192) * 64 + (d - 128)) 128 (by omega)
        rw [if_neg (by omega)] at this
        exact this
  rw [if_neg (show ¬ (194 ≤ c ∧ c < 224) by omega)]
  have j2 : ∀ R, Evt (fun k => abridgerref1_Next.j1 k (a ++ c :: t) (a.length : Int) c false) R → Evt (fun k => if c ≥ 192 then abridgerref1_Next.j1 k (a ++ c :: t) (a.length : Int) c (decide (c < 224)) else abridgerref1_Next.j1 k (a ++ c :: t) (a.length : Int) c false) R := by
    intro R h
    by_cases h1 : c ≥ 192
    · refine Evt.pos h1 ?_
      rw [decide_eq_false (by omega)]
      exact h
    · exact Evt.neg h1 h
  refine j2 _ (Evt.succ ?_)
  simp only [abridgerref1_Next.j1, Bool.false_eq_true, if_false]
  by_cases c4 : 224 ≤ c ∧ c < 240
  · refine Evt.pos (by omega) ?_
    rw [decide_eq_true (by omega), if_pos c4]
    refine Evt.succ ?_
    simp only [abridgerref1_Next.j2, if_true, k15]
    rw [show c % 16 = c - 224 by omega]
    refine j3 _ _ _ _ ?_
    rcases t with _ | ⟨d, t⟩
    · exact @rl0_out a [] c 3 (c - 224) 2048 0 (by simp) (by omega) (by omega) hl
    have hd := byte d (by simp)
    rcases t with _ | ⟨e, t⟩
    · refine @rl0_in a [d] c d 3 (c - 224) 2048 0 _ rfl hd (by omega) (by omega) (by omega) (by omega) hl (fun hk => ?_) (fun hk => rfl)
      exact @rl0_out a [d] c 3 _ 2048 1 (by simp) (by omega) (by omega) hl
    have he := byte e (by simp)
    refine @rl0_in a (d :: e :: t) c d 3 (c - 224) 2048 0 _ rfl hd (by omega) (by omega) (by omega) (by omega) hl (fun hk => ?_) (fun hk => if_neg (fun h => hk h.1))
    have hk' := hk
    unfold cont at hk'
    refine @rl0_in a (d :: e :: t) c e 3 _ 2048 1 _ rfl he (by omega) (by omega) (by omega) (by omega) hl (fun hk2 => ?_) (fun hk2 => if_neg (fun h => hk2 h.2))
    have hk2' := hk2
    unfold cont at hk2'
    have := @rl0_end (a ++ c :: d :: e :: t) (a.length : Int) 3 (((c - 224) * 64 + (d - 128)) * 64 + (e - 128)) 2048 (by omega)
    rw [fin_low (by omega) (Or.inr (Or.inr (Or.inl ⟨rfl, rfl, by omega⟩)))] at this
    show Evt _ (if cont d ∧ cont e then fin ((c - 224) * 4096 + (d - 128) * 64 + (e - 128)) 3 else bad)
    rw [if_pos ⟨hk, hk2⟩, show (c - 224) * 4096 + (d - 128) * 64 + (e - 128) = ((c - 224) * 64 + (d - 128)) * 64 + (e - 128) by omega]
    exact this
  rw [if_neg c4]
  have j4 : ∀ R, Evt (fun k => abridgerref1_Next.j2 k (a ++ c :: t) (a.length : Int) c false) R → Evt (fun k => if c ≥ 224 then abridgerref1_Next.j2 k (a ++ c :: t) (a.length : Int) c (decide (c < 240)) else abridgerref1_Next.j2 k (a ++ c :: t) (a.length : Int) c false) R := by
    intro R h
    by_cases h1 : c ≥ 224
    · refine Evt.pos h1 ?_
      rw [decide_eq_false (by omega)]
      exact h
    · exact Evt.neg h1 h
  refine j4 _ (Evt.succ ?_)
  simp only [abridgerref1_Next.j2, Bool.false_eq_true, if_false]
  by_cases c5 : 240 ≤ c ∧ c < 248
  · refine Evt.pos (by omega) (Evt.pos c5.2 ?_)
    rw [k7, show c % 8 = c - 240 by omega]
    refine j3 _ _ _ _ ?_
    rcases t with _ | ⟨d, t⟩
    · have h1 := @rl0_out a [] c 4 (c - 240) 65536 0 (by simp) (by omega) (by omega) hl
      split <;> exact h1
    have hd := byte d (by simp)
    rcases t with _ | ⟨e, t⟩
    · have h1 : Evt (fun k => abridgerref1_Next.l0 k (a ++ [c, d]) (a.length : Int) 4 (c - 240) 65536 1) bad := by
        refine @rl0_in a [d] c d 4 (c - 240) 65536 0 _ rfl hd (by omega) (by omega) (by omega) (by omega) hl (fun hk => ?_) (fun hk => rfl)
        exact @rl0_out a [d] c 4 _ 65536 1 (by simp) (by omega) (by omega) hl
      split <;> exact h1
    have he := byte e (by simp)
    rcases t with _ | ⟨f, t⟩
    · have h1 : Evt (fun k => abridgerref1_Next.l0 k (a ++ [c, d, e]) (a.length : Int) 4 (c - 240) 65536 1) bad := by
        refine @rl0_in a [d, e] c d 4 (c - 240) 65536 0 _ rfl hd (by omega) (by omega) (by omega) (by omega) hl (fun hk => ?_) (fun hk => rfl)
        unfold cont at hk
        refine @rl0_in a [d, e] c e 4 _ 65536 1 _ rfl he (by omega) (by omega) (by omega) (by omega) hl (fun hk => ?_) (fun hk => rfl)
        exact @rl0_out a [d, e] c 4 _ 65536 2 (by simp) (by omega) (by omega) hl
      split <;> exact h1
    have hf := byte f (by simp)
    have key : Evt (fun k => abridgerref1_Next.l0 k (a ++ c :: d :: e :: f :: t) (a.length : Int) 4 (c - 240) 65536 1) (if cont d ∧ cont e ∧ cont f then fin ((c - 240) * 262144 + (d - 128) * 4096 + (e - 128) * 64 + (f - 128)) 4 else bad) := by
      refine @rl0_in a (d :: e :: f :: t) c d 4 (c - 240) 65536 0 _ rfl hd (by omega) (by omega) (by omega) (by omega) hl (fun hk => ?_) (fun hk => if_neg (fun h => hk h.1))
      have hk' := hk
      unfold cont at hk'
      refine @rl0_in a (d :: e :: f :: t) c e 4 _ 65536 1 _ rfl he (by omega) (by omega) (by omega) (by omega) hl (fun hk2 => ?_) (fun hk2 => if_neg (fun h => hk2 h.2.1))
      have hk2' := hk2
      unfold cont at hk2'
      refine @rl0_in a (d :: e :: f :: t) c f 4 _ 65536 2 _ rfl hf (by omega) (by omega) (by omega) (by omega) hl (fun hk3 => ?_) (fun hk3 => if_neg (fun h => hk3 h.2.2))
      have hk3' := hk3
      unfold cont at hk3'
      have := @rl0_end (a ++ c :: d :: e :: f :: t) (a.length : Int) 4 ((((c - 240) * 64 + (d - 128)) * 64 + (e - 128)) * 64 + (f - 128)) 65536 (by omega)
      rw [fin_low (by omega) (Or.inr (Or.inr (Or.inr ⟨rfl, rfl⟩)))] at this
      rw [if_pos ⟨hk, hk2, hk3⟩, show (c - 240) * 262144 + (d - 128) * 4096 + (e - 128) * 64 + (f - 128) = (((c - 240) * 64 + (d - 128)) * 64 + (e - 128)) * 64 + (f - 128) by omega]
      exact this
    by_cases c6 : c < 245
    · simp only [if_pos (show 240 ≤ c ∧ c < 245 by omega)]
      exact key
    · rw [if_neg (by omega)]
      have hbad : (if cont d ∧ cont e ∧ cont f then fin ((c - 240) * 262144 + (d - 128) * 4096 + (e - 128) * 64 + (f - 128)) 4 else bad) = bad := by
        split
        · rename_i h
          unfold cont at h
          unfold fin isCp
          rw [if_neg (by omega)]
        · rfl
      rw [hbad] at key
      exact key
  rw [if_neg (show ¬ (240 ≤ c ∧ c < 245) by omega)]
  by_cases c7 : c ≥ 240
  · exact Evt.pos c7 (Evt.neg (by omega) (Evt.const _))
  · exact Evt.neg c7 (Evt.const _)
/-- The reference's Next answers as the model. -/
theorem ref_next_ev (l : List Int) (hb : Bytes l) (hl : (l.length : Int) ≤ 140737488355328) (i : Int) : Evt (fun k => abridgerref1_Next.f k l i) (nx l i) := by
  by_cases h0 : i < 0
  · rw [nx_out (Or.inl h0)]
    simp only [abridgerref1_Next.f]
    refine Evt.pos h0 (Evt.succ ?_)
    simp only [abridgerref1_Next.j0, if_true]
    exact Evt.const _
  by_cases h1 : (l.length : Int) ≤ i
  · rw [nx_out (Or.inr h1)]
    simp only [abridgerref1_Next.f]
    refine Evt.neg h0 ?_
    rw [decide_eq_true (by omega)]
    refine Evt.succ ?_
    simp only [abridgerref1_Next.j0, if_true]
    exact Evt.const _
  obtain ⟨a, c, t, rfl, rfl⟩ := split_at (l := l) (i := i) (by omega) (by omega)
  rw [nx_at]
  exact ref_next_at a c t hb.right hl
theorem ref_valid_from (t : List Int) (ht : (dec t).2.2 = false) (hbt : Bytes t) (rs : List Int) (hrs : ∀ r ∈ rs, isCp r) : ∀ a : List Int, ((a ++ (encAll rs ++ t)).length : Int) ≤ 140737488355328 → Bytes a →
    Evt (fun k => abridgerref1_Valid.l0 k (a ++ (encAll rs ++ t)) (a.length : Int)) (((a ++ encAll rs).length : Int), decide (t = [])) := by
  induction rs with
  | nil =>
    intro a hl ha
    refine Evt.succ ?_
    simp only [abridgerref1_Valid.l0, encAll_nil, List.nil_append, List.append_nil] at hl ⊢
    rcases t with _ | ⟨c, t⟩
    · refine Evt.neg (by simp) ?_
      exact Evt.const _
    · have hn := ref_next_ev (a ++ c :: t) (ha.append hbt) hl (a.length : Int)
      rw [nx_at, dec_false (by simp) ht] at hn
      refine Evt.pos (by simp; omega) (Evt.bind hn ?_)
      simp only [bad, Bool.false_eq_true, if_false]
      exact Evt.const _
  | cons r rs ih =>
    intro a hl ha
    have hr := hrs r (by simp)
    have hrs' : ∀ x ∈ rs, isCp x := fun x hx => hrs x (by simp [hx])
    have h1 := @enc_size r
    have h2 := size_range r
    have hn := ref_next_ev (a ++ (encAll (r :: rs) ++ t)) (ha.append ((encAll_bytes hrs).append hbt)) hl (a.length : Int)
    rw [nx_at, encAll_cons, List.append_assoc, dec_enc hr] at hn
    refine Evt.succ ?_
    rw [encAll_cons, List.append_assoc] at hl ⊢
    simp only [abridgerref1_Valid.l0]
    have hl' : ((a.length : Int) + ((enc r).length + ((encAll rs).length + t.length : Nat) : Nat)) ≤ 140737488355328 := by
      simp only [List.length_append] at hl
      omega
    refine Evt.pos (by simp only [List.length_append]; omega) (Evt.bind hn ?_)
    simp only [if_true]
    rw [wrap64_in (by omega) (by omega), show (a.length : Int) + size r = ((a ++ enc r).length : Int) by rw [← h1]; simp, ← List.append_assoc a, show a ++ (enc r ++ encAll rs) = (a ++ enc r) ++ encAll rs by rw [List.append_assoc]]
    exact ih hrs' (a ++ enc r) (by rw [List.append_assoc]; exact hl) (ha.append (enc_bytes hr))
theorem ref_valid_ev {rs t : List Int} (hrs : ∀ r ∈ rs, isCp r) (ht : (dec t).2.2 = false) (hbt : Bytes t) (hl : ((encAll rs ++ t).length : Int) ≤ 140737488355328) :
    Evt (fun k => abridgerref1_Valid.f k (encAll rs ++ t)) (((encAll rs).length : Int), decide (t = [])) := by
  simp only [abridgerref1_Valid.f]
  exact ref_valid_from t ht hbt rs hrs [] hl Bytes.nil

end Go.Proofs.Ytcioifijkonplaa.RefEq
