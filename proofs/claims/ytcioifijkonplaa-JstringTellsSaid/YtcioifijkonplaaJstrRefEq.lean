/- The reference's SpellUnits, as it is printed in plain Lean, answers as Jstr says. -/
import Derived.Test.YtcioifijkonplaaQx10
import Derived.Test.YtcioifijkonplaaJstrRight
import Derived.Test.YtcioifijkonplaaRefEq
namespace Go.Proofs.Ytcioifijkonplaa.JstrEq
open Go.RowKit Go.Proofs.YtcioifijkonplaaW.PrintWords Go.Proofs.Ytcioifijkonplaa.Base Go.Proofs.Ytcioifijkonplaa.Utf Go.Proofs.Ytcioifijkonplaa.UtfEq Go.Proofs.Ytcioifijkonplaa.RefEq Go.Proofs.Ytcioifijkonplaa.TextEq Go.Proofs.Ytcioifijkonplaa.Jstr Go.Proofs.Ytcioifijkonplaa.Q

abbrev SH : List Int := [34, 92, 8, 12, 10, 13, 9]
abbrev HX : ByteArray := ⟨#[48, 49, 50, 51, 52, 53, 54, 55, 56, 57, 97, 98, 99, 100, 101, 102]⟩
theorem short_step {l acc : List Int} {i u x7 j : Int} {R : ByteArray} (h0 : 0 ≤ j) (h1 : j < 7) (h : Evt (fun k => abridgerref1_SpellUnits.l1 k l HX acc i u (if rd SH j = u then j else x7) SH (j + 1)) R) : Evt (fun k => abridgerref1_SpellUnits.l1 k l HX acc i u x7 SH j) R := by
  have w : wrap64 (j + 1) = j + 1 := wrap64_in (by omega) (by omega)
  refine Evt.succ ?_
  simp only [abridgerref1_SpellUnits.l1, w]
  clear w
  refine Evt.pos (by simp; omega) (Evt.pos h0 ?_)
  by_cases e : rd SH j = u
  · rw [if_pos e] at h
    exact Evt.pos e h
  · rw [if_neg e] at h
    exact Evt.neg e h
/-- The place of a short escape; below 0: none. -/
def place (u : Int) : Int := if u = 34 then 0 else if u = 92 then 1 else if u = 8 then 2 else if u = 12 then 3 else if u = 10 then 4 else if u = 13 then 5 else if u = 9 then 6 else -1
theorem short_all {l acc : List Int} {i u : Int} {R : ByteArray} (h : Evt (fun k => abridgerref1_SpellUnits.l1 k l HX acc i u (place u) SH 7) R) : Evt (fun k => abridgerref1_SpellUnits.l1 k l HX acc i u (-1) SH 0) R := by
  refine short_step (by omega) (by omega) (short_step (by omega) (by omega) (short_step (by omega) (by omega) (short_step (by omega) (by omega) (short_step (by omega) (by omega) (short_step (by omega) (by omega) (short_step (by omega) (by omega) ?_))))))
  have e : (if rd SH (0 + 1 + 1 + 1 + 1 + 1 + 1) = u then (0 + 1 + 1 + 1 + 1 + 1 + 1 : Int) else if rd SH (0 + 1 + 1 + 1 + 1 + 1) = u then 0 + 1 + 1 + 1 + 1 + 1 else if rd SH (0 + 1 + 1 + 1 + 1) = u then 0 + 1 + 1 + 1 + 1 else if rd SH (0 + 1 + 1 + 1) = u then 0 + 1 + 1 + 1 else if rd SH (0 + 1 + 1) = u then 0 + 1 + 1 else if rd SH (0 + 1) = u then 0 + 1 else if rd SH 0 = u then 0 else -1) = place u := by
    show (if (9 : Int) = u then (6 : Int) else if (13 : Int) = u then 5 else if (10 : Int) = u then 4 else if (12 : Int) = u then 3 else if (8 : Int) = u then 2 else if (92 : Int) = u then 1 else if (34 : Int) = u then 0 else -1) = place u
    unfold place
    repeat' split
    all_goals omega
  rw [e]
  exact h

theorem i64_and15 {x : Int} (h0 : 0 ≤ x) (h1 : x < 2147483648) : bits .and .i64 x 15 = x % 16 :=
  bits_mask .i64 31 (by decide) wraps_i64 4 (by decide) x h0 h1
theorem bt_hex {d : Int} (h0 : 0 ≤ d) (h1 : d < 16) : bt HX d = hexd d := by
  have : d = 0 ∨ d = 1 ∨ d = 2 ∨ d = 3 ∨ d = 4 ∨ d = 5 ∨ d = 6 ∨ d = 7 ∨ d = 8 ∨ d = 9 ∨ d = 10 ∨ d = 11 ∨ d = 12 ∨ d = 13 ∨ d = 14 ∨ d = 15 := by omega
  rcases this with rfl | rfl | rfl | rfl | rfl | rfl | rfl | rfl | rfl | rfl | rfl | rfl | rfl | rfl | rfl | rfl <;> rfl
theorem ref_hex {l acc : List Int} {i u : Int} {R : ByteArray} (h0 : 0 ≤ u) (h1 : u ≤ 65535) (hi0 : 0 ≤ i) (hi : i ≤ 1000000000) (ha : acc.length ≤ 10000000000) (hu : u < 32 ∨ (55296 ≤ u ∧ u < 57344)) (h : Evt (fun k => abridgerref1_SpellUnits.l0 k l HX (acc ++ 92 :: 117 :: four u) (i + 1)) R) : Evt (fun k => abridgerref1_SpellUnits.j2 k l HX acc i u false) R := by
  have e1 := i64_and15 (x := u / 256) (by omega) (by omega)
  have e2 := i64_and15 (x := u / 16) (by omega) (by omega)
  have e3 := i64_and15 (x := u) (by omega) (by omega)
  have f0 := bt_hex (d := u / 4096) (by omega) (by omega)
  have f1 := bt_hex (d := u / 256 % 16) (by omega) (by omega)
  have f2 := bt_hex (d := u / 16 % 16) (by omega) (by omega)
  have f3 := bt_hex (d := u % 16) (by omega) (by omega)
  have w : wrap64 (i + 1) = i + 1 := wrap64_in (by omega) (by omega)
  have hs : (HX.size : Int) = 16 := rfl
  have key : Evt (fun k => if acc.length + ([92, 117, hexd (u / 4096), hexd (u / 256 % 16), hexd (u / 16 % 16), hexd (u % 16)] : List Int).length < 140737488355328 then abridgerref1_SpellUnits.l0 k l HX (acc ++ [92, 117, hexd (u / 4096), hexd (u / 256 % 16), hexd (u / 16 % 16), hexd (u % 16)]) (i + 1) else none) R := by
    refine Evt.pos ?_ h
    simp only [List.length_cons, List.length_nil]
    clear e1 e2 e3 f0 f1 f2 f3 w
    omega
  have q0 : 0 ≤ u / 4096 := by clear e1 e2 e3 f0 f1 f2 f3 w; omega
  have q1 : u / 4096 < 16 := by clear e1 e2 e3 f0 f1 f2 f3 w; omega
  have q2 : 0 ≤ u / 256 % 16 := by clear e1 e2 e3 f0 f1 f2 f3 w; omega
  have q3 : u / 256 % 16 < 16 := by clear e1 e2 e3 f0 f1 f2 f3 w; omega
  have q4 : 0 ≤ u / 16 % 16 := by clear e1 e2 e3 f0 f1 f2 f3 w; omega
  have q5 : u / 16 % 16 < 16 := by clear e1 e2 e3 f0 f1 f2 f3 w; omega
  have q6 : 0 ≤ u % 16 := by clear e1 e2 e3 f0 f1 f2 f3 w; omega
  have q7 : u % 16 < 16 := by clear e1 e2 e3 f0 f1 f2 f3 w; omega
  refine Evt.succ ?_
  simp only [abridgerref1_SpellUnits.j2, e1, e2, e3, f0, f1, f2, f3, w, hs]
  clear e1 e2 e3 f0 f1 f2 f3 w
  refine Evt.neg (by simp) ?_
  by_cases h3 : u < 32
  · exact Evt.pos h3 (Evt.pos q0 (Evt.pos q1 (Evt.pos q2 (Evt.pos q3 (Evt.pos q4 (Evt.pos q5 (Evt.pos q6 (Evt.pos q7 (Evt.bind (Evt.const _) key)))))))))
  · exact Evt.neg h3 (Evt.pos (by omega) (Evt.pos (by omega) (Evt.pos q0 (Evt.pos q1 (Evt.pos q2 (Evt.pos q3 (Evt.pos q4 (Evt.pos q5 (Evt.pos q6 (Evt.pos q7 (Evt.bind (Evt.const _) key)))))))))))
theorem ref_put {l acc : List Int} {i u : Int} {R : ByteArray} (hi0 : 0 ≤ i) (hi : i ≤ 1000000000) (ha : acc.length ≤ 10000000000) (hu : ¬ (u < 32 ∨ (55296 ≤ u ∧ u < 57344))) (h : Evt (fun k => abridgerref1_SpellUnits.l0 k l HX (acc ++ put u) (i + 1)) R) : Evt (fun k => abridgerref1_SpellUnits.j2 k l HX acc i u false) R := by
  have p := ref_put_ev acc u (by omega)
  refine Evt.succ ?_
  simp only [abridgerref1_SpellUnits.j2, show wrap64 (i + 1) = i + 1 from wrap64_in (by omega) (by omega)]
  refine Evt.neg (by simp) (Evt.neg (by omega) ?_)
  by_cases h3 : u ≥ 55296
  · exact Evt.pos h3 (Evt.neg (by omega) (Evt.bind p h))
  · exact Evt.neg h3 (Evt.bind p h)

theorem pairs_low {c : Int} (t : List Int) (h : ¬ (55296 ≤ c ∧ c < 56320)) : pairs (c :: t) = c :: pairs t := by
  cases t with
  | nil => rfl
  | cons d t => exact pairs_single fun x => h x.1
theorem body_low {c : Int} (t : List Int) (h : ¬ (55296 ≤ c ∧ c < 56320)) : body (c :: t) = spell c ++ body t := by
  unfold body
  rw [pairs_low t h]
  rfl
theorem place_short {u : Int} (h : 0 ≤ place u) : place u < 7 ∧ ¬ 55296 ≤ u ∧ spell u = [92, bt (⟨#[34, 92, 98, 102, 110, 114, 116]⟩ : ByteArray) (place u)] := by
  have : u = 34 ∨ u = 92 ∨ u = 8 ∨ u = 12 ∨ u = 10 ∨ u = 13 ∨ u = 9 := by
    unfold place at h
    repeat' split at h
    all_goals omega
  rcases this with rfl | rfl | rfl | rfl | rfl | rfl | rfl <;> exact ⟨by decide, by decide, by decide⟩
theorem place_none {u : Int} (h : ¬ 0 ≤ place u) : short u = none := by
  unfold place at h
  unfold short
  by_cases b1 : u = 34
  · simp [b1] at h
  by_cases b2 : u = 92
  · simp [b2] at h
  by_cases b3 : u = 8
  · simp [b3] at h
  by_cases b4 : u = 12
  · simp [b4] at h
  by_cases b5 : u = 10
  · simp [b5] at h
  by_cases b6 : u = 13
  · simp [b6] at h
  by_cases b7 : u = 9
  · simp [b7] at h
  simp [b1, b2, b3, b4, b5, b6, b7]

theorem spell_none {u : Int} (h : short u = none) : spell u = if u < 32 ∨ (55296 ≤ u ∧ u < 57344) then 92 :: 117 :: four u else put u := by
  unfold spell
  rw [h]
/-- A unit that is no part of a pair. -/
theorem ref_one {l acc : List Int} {i u : Int} {R : ByteArray} (h0 : 0 ≤ u) (h1 : u ≤ 65535) (hi0 : 0 ≤ i) (hi : i ≤ 1000000000) (ha : acc.length ≤ 10000000000) (hs : short u = none) (h : Evt (fun k => abridgerref1_SpellUnits.l0 k l HX (acc ++ spell u) (i + 1)) R) : Evt (fun k => abridgerref1_SpellUnits.j2 k l HX acc i u false) R := by
  rw [spell_none hs] at h
  by_cases hu : u < 32 ∨ (55296 ≤ u ∧ u < 57344)
  · rw [if_pos hu] at h
    exact ref_hex h0 h1 hi0 hi ha hu h
  · rw [if_neg hu] at h
    exact ref_put hi0 hi ha hu h
theorem ref_spells (n : Nat) : ∀ t a acc : List Int, t.length ≤ n → right t → ((a ++ t).length : Int) ≤ 1000000000 → acc.length ≤ 6 * a.length + 1 →
    Evt (fun k => abridgerref1_SpellUnits.l0 k (a ++ t) HX acc (a.length : Int)) (strOfNums (acc ++ (body t ++ [34]))) := by
  induction n with
  | zero =>
    intro t a acc ht _ hl hacc
    obtain rfl : t = [] := List.length_eq_zero_iff.1 (by omega)
    simp only [List.append_nil] at hl ⊢
    refine Evt.succ ?_
    simp only [abridgerref1_SpellUnits.l0]
    exact Evt.neg (by omega) (Evt.pos (by omega) (Evt.const _))
  | succ n ih =>
    intro t a acc ht hr hl hacc
    match t, ht, hr, hl with
    | [], _, _, hl =>
      simp only [List.append_nil] at hl ⊢
      refine Evt.succ ?_
      simp only [abridgerref1_SpellUnits.l0]
      exact Evt.neg (by omega) (Evt.pos (by omega) (Evt.const _))
    | c :: t, ht, hr, hl =>
      have hc := (right_cons.1 hr).1
      have hlen : ((a ++ c :: t).length : Int) = (a.length : Int) + 1 + (t.length : Int) := by
        simp only [List.length_append, List.length_cons]
        omega
      have hsl := spell_len c
      have next : (55296 ≤ c ∧ c < 56320 → body (c :: t) = spell c ++ body t) → Evt (fun k => abridgerref1_SpellUnits.l0 k (a ++ c :: t) HX (acc ++ spell c) ((a.length : Int) + 1)) (strOfNums (acc ++ (body (c :: t) ++ [34]))) := by
        intro hb
        have hb' : body (c :: t) = spell c ++ body t := by
          by_cases hx : 55296 ≤ c ∧ c < 56320
          · exact hb hx
          · exact body_low t hx
        have := ih t (a ++ [c]) (acc ++ spell c) (by simp only [List.length_cons] at ht; omega) (right_cons.1 hr).2 (by simpa using hl) (by simp only [List.length_append, List.length_cons, List.length_nil]; omega)
        rw [hb']
        simpa using this
      refine Evt.succ ?_
      simp only [abridgerref1_SpellUnits.l0, rd_append]
      refine Evt.pos (by omega) (Evt.pos (by omega) (short_all (Evt.succ ?_)))
      simp only [abridgerref1_SpellUnits.l1]
      refine Evt.neg (by simp) ?_
      by_cases hp : 0 ≤ place c
      · have hq := place_short hp
        refine Evt.pos hp (Evt.pos hp (Evt.pos hq.1 (Evt.bind (Evt.const _) (Evt.pos (by simp only [List.length_cons, List.length_nil]; omega) ?_))))
        rw [← hq.2.2, show wrap64 ((a.length : Int) + 1) = (a.length : Int) + 1 from wrap64_in (by omega) (by omega)]
        exact next fun x => absurd x.1 hq.2.1
      refine Evt.neg hp ?_
      have hs := place_none hp
      have one : (55296 ≤ c ∧ c < 56320 → body (c :: t) = spell c ++ body t) → Evt (fun k => abridgerref1_SpellUnits.j2 k (a ++ c :: t) HX acc (a.length : Int) c false) (strOfNums (acc ++ (body (c :: t) ++ [34]))) := fun hb => ref_one hc.1 hc.2 (by omega) (by omega) (by omega) hs (next hb)
      by_cases h1 : c ≥ 55296
      · refine Evt.pos h1 ?_
        by_cases h2 : c < 56320
        · refine Evt.pos h2 ?_
          rw [show wrap64 ((a.length : Int) + 1) = (a.length : Int) + 1 from wrap64_in (by omega) (by omega)]
          cases t with
          | nil => exact Evt.neg (by simp) (one fun _ => by simp [body, pairs])
          | cons d t =>
            have hd := (right_cons.1 (right_cons.1 hr).2).1
            have single : ¬ (56320 ≤ d ∧ d < 57344) → body (c :: d :: t) = spell c ++ body (d :: t) := by
              intro hn
              unfold body
              rw [pairs_single (fun x => hn x.2)]
              rfl
            refine Evt.pos (by simp only [List.length_cons] at hlen ⊢; omega) (Evt.pos (by omega) ?_)
            rw [rd_two1 a c d t]
            by_cases h3 : d ≥ 56320
            · refine Evt.pos h3 ?_
              by_cases h4 : d < 57344
              · rw [decide_eq_true h4]
                have hcp : spell (65536 + (c - 55296) * 1024 + d - 56320) = put (65536 + (c - 55296) * 1024 + d - 56320) := by
                  rw [spell_none (place_none (by unfold place; repeat' split <;> omega)), if_neg (by omega)]
                have hb : body (c :: d :: t) = put (65536 + (c - 55296) * 1024 + d - 56320) ++ body t := by
                  unfold body
                  rw [pairs_double ⟨⟨h1, h2⟩, ⟨h3, h4⟩⟩, List.flatMap_cons, hcp]
                have hpl := put_length (65536 + (c - 55296) * 1024 + d - 56320)
                have hput := ref_put_ev acc (65536 + (c - 55296) * 1024 + d - 56320) (by omega)
                have hi := ih t (a ++ [c, d]) (acc ++ put (65536 + (c - 55296) * 1024 + d - 56320)) (by simp only [List.length_cons] at ht; omega) (right_cons.1 (right_cons.1 hr).2).2 (by simpa using hl) (by simp only [List.length_append, List.length_cons, List.length_nil]; omega)
                rw [hb]
                refine Evt.succ ?_
                simp only [abridgerref1_SpellUnits.j2, rd_two1 a c d t, show wrap64 ((a.length : Int) + 1) = (a.length : Int) + 1 from wrap64_in (by omega) (by omega), show wrap64 ((a.length : Int) + 1 + 1) = (a.length : Int) + 1 + 1 from wrap64_in (by omega) (by omega)]
                rw [wrap64_in (n := c - 55296) (by omega) (by omega), wrap64_in (n := (c - 55296) * 1024) (by omega) (by omega), wrap64_in (n := 65536 + (c - 55296) * 1024) (by omega) (by omega), wrap64_in (n := 65536 + (c - 55296) * 1024 + d) (by omega) (by omega), wrap64_in (n := 65536 + (c - 55296) * 1024 + d - 56320) (by omega) (by omega)]
                refine Evt.pos (by simp) (Evt.pos (by omega) (Evt.pos (by simp only [List.length_cons] at hlen ⊢; omega) (Evt.bind hput ?_)))
                simpa [Int.add_assoc] using hi
              · rw [decide_eq_false h4]
                exact one fun _ => single (by omega)
            · exact Evt.neg h3 (one fun _ => single (by omega))
        · exact Evt.neg h2 (one fun x => absurd x.2 h2)
      · exact Evt.neg h1 (one fun x => absurd x.1 (by omega))
theorem ref_spell_ev (l : List Int) (hl : (l.length : Int) ≤ 100000000) : Evt (fun k => abridgerref1_SpellUnits.f k l) (if right l then strOfNums (spelled l) else ⟨#[]⟩) := by
  simp only [abridgerref1_SpellUnits.f]
  refine Evt.bind (ref_right_ev l (by omega)) ?_
  by_cases hr : right l
  · rw [if_pos hr]
    refine Evt.pos (decide_eq_true hr) ?_
    have := ref_spells l.length l [] [34] (Nat.le_refl _) hr (by simp only [List.nil_append]; omega) (by simp)
    simpa [spelled] using this
  · rw [if_neg hr]
    exact Evt.neg (by simp [hr]) (Evt.const _)
end Go.Proofs.Ytcioifijkonplaa.JstrEq
