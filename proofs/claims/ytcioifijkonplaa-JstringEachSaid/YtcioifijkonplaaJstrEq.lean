/- The functions of the package jstring, as they are printed in plain Lean, answer as Jstr says. -/
import Derived.Test.YtcioifijkonplaaQx1
import Derived.Test.YtcioifijkonplaaQx2
import Derived.Test.YtcioifijkonplaaQx3
import Derived.Test.YtcioifijkonplaaQx6
import Derived.Test.YtcioifijkonplaaQx7
import Derived.Test.YtcioifijkonplaaTextEq
import Derived.Test.YtcioifijkonplaaJstr
namespace Go.Proofs.Ytcioifijkonplaa.JstrEq
open Go.RowKit Go.Proofs.YtcioifijkonplaaW.PrintWords Go.Proofs.Ytcioifijkonplaa.Base Go.Proofs.Ytcioifijkonplaa.Utf Go.Proofs.Ytcioifijkonplaa.UtfEq Go.Proofs.Ytcioifijkonplaa.TextEq Go.Proofs.Ytcioifijkonplaa.Jstr Go.Proofs.Ytcioifijkonplaa.Q

theorem wrong_eq (c : Int) : jstring_Right_1.f c = some (decide (¬ (0 ≤ c ∧ c ≤ 65535))) := by
  unfold jstring_Right_1.f
  split
  · rw [decide_eq_true (by omega)]
  · congr 1
    rw [decide_eq_decide]
    omega
theorem index_ev (t : List Int) : ∀ a : List Int, ((a ++ t).length : Int) ≤ 1000000000 → ∃ r, Evt (fun k => slices_IndexFunc_int_int.l0 k (a ++ t) ((a ++ t).length : Int) (a.length : Int)) r ∧ (r ≥ 0 ↔ ¬ right t) := by
  induction t with
  | nil =>
    intro a _
    refine ⟨-1, Evt.succ ?_, by simp [right]⟩
    simp only [slices_IndexFunc_int_int.l0]
    exact Evt.neg (by simp) (Evt.const _)
  | cons c t ih =>
    intro a hl
    have hl' : (((a ++ [c]) ++ t).length : Int) ≤ 1000000000 := by
      simpa using hl
    have hlen : ((a ++ c :: t).length : Int) = (a.length : Int) + 1 + (t.length : Int) := by
      simp only [List.length_append, List.length_cons]
      omega
    obtain ⟨r, h, hr⟩ := ih (a ++ [c]) hl'
    have e1 : (a ++ [c]) ++ t = a ++ c :: t := by simp
    have e2 : ((a ++ [c]).length : Int) = (a.length : Int) + 1 := by simp
    rw [e1, e2] at h
    by_cases hc : 0 ≤ c ∧ c ≤ 65535
    · refine ⟨r, Evt.succ ?_, by rw [right_cons]; constructor; exact fun x y => hr.1 x y.2; exact fun x => hr.2 fun y => x ⟨hc, y⟩⟩
      simp only [slices_IndexFunc_int_int.l0]
      refine Evt.pos (by omega) (Evt.pos (by omega) (Evt.pos (by omega) (Evt.bind (a := false) ?_ (Evt.neg (by simp) ?_))))
      · rw [rd_append, wrong_eq]
        exact Evt.of (by simp [hc])
      · rw [wrap64_in (by omega) (by omega)]
        exact h
    · refine ⟨(a.length : Int), Evt.succ ?_, by rw [right_cons]; constructor; exact fun _ y => hc y.1; exact fun _ => by omega⟩
      simp only [slices_IndexFunc_int_int.l0]
      refine Evt.pos (by omega) (Evt.pos (by omega) (Evt.pos (by omega) (Evt.bind (a := true) ?_ (Evt.pos rfl (Evt.const _)))))
      rw [rd_append, wrong_eq]
      exact Evt.of (by simp only [decide_eq_true hc])
theorem right_ev (l : List Int) (hl : (l.length : Int) ≤ 1000000000) : Evt (fun k => jstring_Right.f k l) (decide (right l)) := by
  obtain ⟨r, h, hr⟩ := index_ev l [] (by simpa using hl)
  simp only [jstring_Right.f, slices_ContainsFunc_int_int.f, slices_IndexFunc_int_int.f]
  refine Evt.bind (Evt.bind h (Evt.const _)) (Evt.of ?_)
  by_cases hx : right l
  · rw [decide_eq_true hx, decide_eq_false (by rw [hr]; exact fun y => y hx)]
    rfl
  · rw [decide_eq_false hx, decide_eq_true (hr.2 hx)]
    rfl

theorem pairs_single {c d : Int} {t : List Int} (h : ¬ ((55296 ≤ c ∧ c < 56320) ∧ (56320 ≤ d ∧ d < 57344))) : pairs (c :: d :: t) = c :: pairs (d :: t) := by
  rw [pairs, if_neg h]
theorem pairs_double {c d : Int} {t : List Int} (h : (55296 ≤ c ∧ c < 56320) ∧ (56320 ≤ d ∧ d < 57344)) : pairs (c :: d :: t) = (65536 + (c - 55296) * 1024 + d - 56320) :: pairs t := by
  rw [pairs, if_pos h]
theorem rd_two0 (a : List Int) (c d : Int) (t : List Int) : rd (a ++ c :: d :: t) (a.length : Int) = c := rd_append a c _
theorem rd_two1 (a : List Int) (c d : Int) (t : List Int) : rd (a ++ c :: d :: t) ((a.length : Int) + 1) = d := by
  have := rd_append (a ++ [c]) d t
  simpa using this
theorem pairs_l0 (n : Nat) : ∀ (t a acc : List Int), t.length ≤ n → right t → ((a ++ t).length : Int) ≤ 1000000000 → acc.length ≤ a.length →
    Evt (fun k => jstring_Pairs.l0 k (a ++ t) acc (a.length : Int)) (acc ++ pairs t) := by
  induction n with
  | zero =>
    intro t a acc ht _ _ _
    obtain rfl : t = [] := List.length_eq_zero_iff.1 (by omega)
    refine Evt.succ ?_
    simp only [jstring_Pairs.l0]
    refine Evt.neg (by simp) (Evt.of ?_)
    simp [pairs]
  | succ n ih =>
    intro t a acc ht hr hl hacc
    match t, ht, hr, hl with
    | [], _, _, _ =>
      refine Evt.succ ?_
      simp only [jstring_Pairs.l0]
      refine Evt.neg (by simp) (Evt.of ?_)
      simp [pairs]
    | [c], _, hr, hl =>
      have hc := (right_cons.1 hr).1
      have hlen : ((a ++ [c]).length : Int) = (a.length : Int) + 1 := by simp
      have key : Evt (fun k => if acc.length < 17592186044416 then jstring_Pairs.l0 k (a ++ [c]) (acc ++ [rd (a ++ [c]) (a.length : Int)]) (wrap64 ((a.length : Int) + 1)) else none) (acc ++ pairs [c]) := by
        refine Evt.pos (by omega) ?_
        have := ih [] (a ++ [c]) (acc ++ [c]) (by simp) right_nil (by simpa using hl) (by simp; omega)
        rw [wrap64_in (by omega) (by omega), rd_append]
        simpa [pairs] using this
      refine Evt.succ ?_
      simp only [jstring_Pairs.l0]
      refine Evt.pos (by omega) (Evt.pos (by omega) ?_)
      by_cases h1 : rd (a ++ [c]) (a.length : Int) ≥ 55296
      · refine Evt.pos h1 ?_
        by_cases h2 : rd (a ++ [c]) (a.length : Int) < 56320
        · refine Evt.pos h2 (Evt.neg ?_ key)
          rw [wrap64_in (by omega) (by omega)]
          omega
        · exact Evt.neg h2 key
      · exact Evt.neg h1 key
    | c :: d :: t, ht, hr, hl =>
      have hc := (right_cons.1 hr).1
      have hd := (right_cons.1 (right_cons.1 hr).2).1
      have hlen : ((a ++ c :: d :: t).length : Int) = (a.length : Int) + 2 + (t.length : Int) := by
        simp only [List.length_append, List.length_cons]
        omega
      have single : ¬ ((55296 ≤ c ∧ c < 56320) ∧ (56320 ≤ d ∧ d < 57344)) → Evt (fun k => if acc.length < 17592186044416 then jstring_Pairs.l0 k (a ++ c :: d :: t) (acc ++ [c]) ((a.length : Int) + 1) else none) (acc ++ pairs (c :: d :: t)) := by
        intro hn
        rw [pairs_single hn]
        refine Evt.pos (by omega) ?_
        have := ih (d :: t) (a ++ [c]) (acc ++ [c]) (by simp only [List.length_cons] at ht ⊢; omega) (right_cons.1 hr).2 (by simpa using hl) (by simp; omega)
        simpa using this
      refine Evt.succ ?_
      simp only [jstring_Pairs.l0, rd_two0 a c d t, show wrap64 ((a.length : Int) + 1) = (a.length : Int) + 1 from wrap64_in (by omega) (by omega), rd_two1 a c d t]
      refine Evt.pos (by omega) (Evt.pos (by omega) ?_)
      by_cases h1 : c ≥ 55296
      · refine Evt.pos h1 ?_
        by_cases h2 : c < 56320
        · refine Evt.pos h2 (Evt.pos (by omega) (Evt.pos (by omega) ?_))
          by_cases h3 : d ≥ 56320
          · refine Evt.pos h3 ?_
            by_cases h4 : d < 57344
            · refine Evt.pos h4 (Evt.pos (by omega) ?_)
              rw [pairs_double ⟨⟨h1, h2⟩, ⟨h3, h4⟩⟩]
              rw [wrap64_in (n := c - 55296) (by omega) (by omega), wrap64_in (n := (c - 55296) * 1024) (by omega) (by omega), wrap64_in (n := 65536 + (c - 55296) * 1024) (by omega) (by omega), wrap64_in (n := 65536 + (c - 55296) * 1024 + d) (by omega) (by omega), wrap64_in (n := 65536 + (c - 55296) * 1024 + d - 56320) (by omega) (by omega), wrap64_in (n := (a.length : Int) + 1 + 1) (by omega) (by omega)]
              have := ih t (a ++ [c, d]) (acc ++ [65536 + (c - 55296) * 1024 + d - 56320]) (by simp only [List.length_cons] at ht; omega) (right_cons.1 (right_cons.1 hr).2).2 (by simpa using hl) (by simp; omega)
              simpa [Int.add_assoc] using this
            · exact Evt.neg h4 (single (by omega))
          · exact Evt.neg h3 (single (by omega))
        · exact Evt.neg h2 (single (by omega))
      · exact Evt.neg h1 (single (by omega))
theorem pairs_ev (l : List Int) (hr : right l) (hl : (l.length : Int) ≤ 1000000000) : Evt (fun k => jstring_Pairs.f k l) (pairs l) := by
  have := pairs_l0 l.length l [] [] (Nat.le_refl _) hr (by simpa using hl) (by simp)
  simpa [jstring_Pairs.f] using this

theorem str_append (a b : List Int) : strOfNums a ++ strOfNums b = strOfNums (a ++ b) := by
  apply ByteArray.ext
  simp [strOfNums]
theorem hex_at {d : Int} (h0 : 0 ≤ d) (h1 : d < 16) : (⟨#[48, 49, 50, 51, 52, 53, 54, 55, 56, 57, 97, 98, 99, 100, 101, 102]⟩ : ByteArray).extract d.toNat (d + 1).toNat = strOfNums [hexd d] := by
  have : d = 0 ∨ d = 1 ∨ d = 2 ∨ d = 3 ∨ d = 4 ∨ d = 5 ∨ d = 6 ∨ d = 7 ∨ d = 8 ∨ d = 9 ∨ d = 10 ∨ d = 11 ∨ d = 12 ∨ d = 13 ∨ d = 14 ∨ d = 15 := by omega
  rcases this with rfl | rfl | rfl | rfl | rfl | rfl | rfl | rfl | rfl | rfl | rfl | rfl | rfl | rfl | rfl | rfl <;> rfl
theorem digits_step {r : Int} {acc : List Int} {i : Int} {R : ByteArray} (h0 : 0 ≤ r) (h1 : r ≤ 65535) (hi0 : 0 ≤ i) (hi : i < 4) (ha : acc.length ≤ 10) (h : Evt (fun k => jstring_digits.l0 k (r / 16) (strOfNums (hexd (r % 16) :: acc)) (i + 1)) R) : Evt (fun k => jstring_digits.l0 k r (strOfNums acc) i) R := by
  have e1 : Int.tmod r 16 = r % 16 := Int.tmod_eq_emod_of_nonneg h0
  have e2 : Int.tdiv r 16 = r / 16 := Int.tdiv_eq_ediv_of_nonneg h0
  have e3 : wrap64 (r % 16 + 1) = r % 16 + 1 := wrap64_in (by omega) (by omega)
  have e4 : wrap64 (r / 16) = r / 16 := wrap64_in (by omega) (by omega)
  have e5 : wrap64 (i + 1) = i + 1 := wrap64_in (by omega) (by omega)
  have p1 : 0 ≤ r % 16 := by clear e1 e2 e3 e4 e5; omega
  have p2 : r % 16 < 16 := by clear e1 e2 e3 e4 e5; omega
  have p3 : r % 16 ≤ r % 16 + 1 := by clear e1 e2 e3 e4 e5; omega
  have p4 : r % 16 + 1 ≤ 16 := by clear e1 e2 e3 e4 e5; omega
  refine Evt.succ ?_
  simp only [jstring_digits.l0, e1, e2, e3, e4, e5, hex_at p1 p2, str_append]
  refine Evt.pos hi (Evt.pos p1 (Evt.pos p3 (Evt.pos p4 (Evt.pos ?_ h))))
  rw [str_size, str_size]
  simp only [List.length_cons, List.length_nil]
  clear e1 e2 e3 e4 e5
  omega
theorem digits_ev {r : Int} (h0 : 0 ≤ r) (h1 : r ≤ 65535) : Evt (fun k => jstring_digits.f k r) (strOfNums (four r)) := by
  have e0 : (⟨#[]⟩ : ByteArray) = strOfNums [] := rfl
  simp only [jstring_digits.f, e0]
  refine digits_step h0 h1 (by omega) (by omega) (by simp) ?_
  refine digits_step (by omega) (by omega) (by omega) (by omega) (by simp) ?_
  refine digits_step (by omega) (by omega) (by omega) (by omega) (by simp) ?_
  refine digits_step (by omega) (by omega) (by omega) (by omega) (by simp) ?_
  refine Evt.succ ?_
  simp only [jstring_digits.l0]
  refine Evt.neg (by omega) (Evt.of ?_)
  have q1 : r / 16 / 16 / 16 % 16 = r / 4096 := by omega
  have q2 : r / 16 / 16 % 16 = r / 256 % 16 := by omega
  rw [q1, q2]
  rfl

def idxOf (n : Nat) : Int := if n = 34 then 0 else if n = 92 then 1 else if n = 8 then 2 else if n = 12 then 3 else if n = 10 then 4 else if n = 13 then 5 else if n = 9 then 6 else -1
theorem idx_eq : ∀ n : Fin 128, Lib.indexByte [34, 92, 8, 12, 10, 13, 9] n.val.toUInt8 = idxOf n.val := by decide +kernel
theorem idx_none {r : Int} (h0 : 0 ≤ r) (h : short r = none) : strings_IndexByte.f (⟨#[34, 92, 8, 12, 10, 13, 9]⟩ : ByteArray) ((mn r 127) % 256) = some (-1) := by
  have hc : 0 ≤ (mn r 127) % 256 ∧ (mn r 127) % 256 < 128 ∧ ((mn r 127) % 256 = r ∨ (mn r 127) % 256 = 127) := by
    unfold mn
    split <;> omega
  generalize (mn r 127) % 256 = c at hc
  have key := idx_eq ⟨c.toNat, by omega⟩
  have e : (⟨#[34, 92, 8, 12, 10, 13, 9]⟩ : ByteArray).data.toList = [34, 92, 8, 12, 10, 13, 9] := rfl
  unfold strings_IndexByte.f
  rw [e]
  refine congrArg some (key.trans ?_)
  unfold short at h
  have hn : ∀ m : Nat, (m = 34 ∨ m = 92 ∨ m = 8 ∨ m = 12 ∨ m = 10 ∨ m = 13 ∨ m = 9) → c.toNat ≠ m := by
    intro m hm e1
    have h34 : r ≠ 34 := by rintro rfl; simp at h
    have h92 : r ≠ 92 := by rintro rfl; simp at h
    have h8 : r ≠ 8 := by rintro rfl; simp at h
    have h12 : r ≠ 12 := by rintro rfl; simp at h
    have h10 : r ≠ 10 := by rintro rfl; simp at h
    have h13 : r ≠ 13 := by rintro rfl; simp at h
    have h9 : r ≠ 9 := by rintro rfl; simp at h
    omega
  unfold idxOf
  rw [if_neg (hn 34 (by simp)), if_neg (hn 92 (by simp)), if_neg (hn 8 (by simp)), if_neg (hn 12 (by simp)), if_neg (hn 10 (by simp)), if_neg (hn 13 (by simp)), if_neg (hn 9 (by simp))]
theorem spell_j0 {r : Int} (h0 : 0 ≤ r) (h1 : r ≤ 1114111) (hs : short r = none) (b : Bool) (hb : b = decide (r < 32 ∨ (55296 ≤ r ∧ r < 57344))) : Evt (fun k => jstring_spell.j0 k r b) (strOfNums (spell r)) := by
  have e : spell r = if r < 32 ∨ (55296 ≤ r ∧ r < 57344) then 92 :: 117 :: four r else put r := by
    unfold spell
    rw [hs]
  rw [e]
  subst hb
  refine Evt.succ ?_
  simp only [jstring_spell.j0]
  by_cases h : r < 32 ∨ (55296 ≤ r ∧ r < 57344)
  · rw [if_pos h]
    refine Evt.pos (decide_eq_true h) (Evt.bind (digits_ev h0 (by omega)) (Evt.pos ?_ (Evt.of ?_)))
    · rw [str_size]
      simp [four]
    · have e2 : (⟨#[92, 117]⟩ : ByteArray) = strOfNums [92, 117] := rfl
      rw [e2, str_append]
      rfl
  · rw [if_neg h]
    refine Evt.neg (by simpa using h) (Evt.bind (text_ev [r] (by simp)) (Evt.of ?_))
    simp [puts]
theorem spell_ev {r : Int} (h0 : 0 ≤ r) (h1 : r ≤ 1114111) : Evt (fun k => jstring_spell.f k r) (strOfNums (spell r)) := by
  by_cases hs : short r = none
  · simp only [jstring_spell.f, idx_none h0 hs]
    refine Evt.bind (Evt.const _) (Evt.neg (by omega) ?_)
    by_cases a1 : r < 32
    · exact Evt.pos a1 (spell_j0 h0 h1 hs true (by rw [decide_eq_true (Or.inl a1)]))
    refine Evt.neg a1 ?_
    by_cases a2 : r ≥ 55296
    · refine Evt.pos a2 (spell_j0 h0 h1 hs _ ?_)
      rw [decide_eq_decide]
      omega
    · exact Evt.neg a2 (spell_j0 h0 h1 hs false (by rw [decide_eq_false (by omega)]))
  · have : r = 34 ∨ r = 92 ∨ r = 8 ∨ r = 12 ∨ r = 10 ∨ r = 13 ∨ r = 9 := by
      unfold short at hs
      by_cases b1 : r = 34
      · exact .inl b1
      by_cases b2 : r = 92
      · exact .inr (.inl b2)
      by_cases b3 : r = 8
      · exact .inr (.inr (.inl b3))
      by_cases b4 : r = 12
      · exact .inr (.inr (.inr (.inl b4)))
      by_cases b5 : r = 10
      · exact .inr (.inr (.inr (.inr (.inl b5))))
      by_cases b6 : r = 13
      · exact .inr (.inr (.inr (.inr (.inr (.inl b6)))))
      by_cases b7 : r = 9
      · exact .inr (.inr (.inr (.inr (.inr (.inr b7)))))
      · simp [b1, b2, b3, b4, b5, b6, b7] at hs
    rcases this with rfl | rfl | rfl | rfl | rfl | rfl | rfl <;> exact ⟨0, fun k _ => by show jstring_spell.f k _ = _; kernel_rfl⟩

def U (xs : List Int) : List UInt8 := xs.map fun n => UInt8.ofNat n.toNat
theorem U_append (a b : List Int) : U (a ++ b) = U a ++ U b := by simp [U]
theorem U_length (a : List Int) : (U a).length = a.length := by simp [U]
theorem str_data (a : List Int) : (strOfNums a).data.toList = U a := by simp [strOfNums, U]
theorem spells_l0 (t : List Int) : ∀ (a acc : List Int), (∀ x ∈ t, 0 ≤ x ∧ x ≤ 1114111) → ((a ++ t).length : Int) ≤ 1000000000 → acc.length ≤ 6 * a.length + 1 →
    Evt (fun k => jstring_Spell.l0 k (a ++ t) (a.length : Int) (U acc)) (strOfNums (acc ++ (t.flatMap spell ++ [34]))) := by
  induction t with
  | nil =>
    intro a acc _ hl hacc
    have hl1 : acc.length + 1 ≤ 140737488355328 := by
      simp only [List.append_nil] at hl
      omega
    refine Evt.succ ?_
    simp only [jstring_Spell.l0]
    refine Evt.neg (by simp) (Evt.pos (by rw [U_length]; exact hl1) (Evt.of ?_))
    simp [strOfNums, U]
  | cons c t ih =>
    intro a acc hr hl hacc
    have hc := hr c (by simp)
    have hlen : ((a ++ c :: t).length : Int) = (a.length : Int) + 1 + (t.length : Int) := by
      simp only [List.length_append, List.length_cons]
      omega
    have hs := spell_len c
    have h := ih (a ++ [c]) (acc ++ spell c) (fun x hx => hr x (by simp [hx])) (by simpa using hl) (by simp only [List.length_append, List.length_cons, List.length_nil]; omega)
    have p1 : (a.length : Int) < ((a ++ c :: t).length : Int) := by omega
    have p2 : (0 : Int) ≤ (a.length : Int) := by omega
    have p3 : acc.length + (spell c).length ≤ 140737488355328 := by omega
    have w1 : wrap64 ((a.length : Int) + 1) = (a.length : Int) + 1 := wrap64_in (by omega) (by omega)
    refine Evt.succ ?_
    simp only [jstring_Spell.l0, rd_append, w1]
    refine Evt.pos p1 (Evt.pos p2 (Evt.bind (spell_ev hc.1 hc.2) (Evt.pos (by rw [U_length, str_size]; exact p3) ?_)))
    rw [str_data, ← U_append]
    simpa using h
theorem Spell_ev (l : List Int) (hl : (l.length : Int) ≤ 100000000) : Evt (fun k => jstring_Spell.f k l) (if right l then strOfNums (spelled l) else ⟨#[]⟩) := by
  simp only [jstring_Spell.f]
  refine Evt.bind (right_ev l (by omega)) ?_
  by_cases hr : right l
  · rw [if_pos hr]
    have hp := pairs_len l
    refine Evt.pos (decide_eq_true hr) (Evt.bind (pairs_ev l hr (by omega)) ?_)
    have := spells_l0 (pairs l) [] [34] (pairs_range hr) (by simp only [List.nil_append]; omega) (by simp)
    simpa [spelled, body, U] using this
  · rw [if_neg hr]
    exact Evt.neg (by simp [hr]) (Evt.const _)
end Go.Proofs.Ytcioifijkonplaa.JstrEq
