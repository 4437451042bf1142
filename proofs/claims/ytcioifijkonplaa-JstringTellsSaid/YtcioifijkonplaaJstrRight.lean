/- The reference's test for units, and pairs of texts one behind the other. -/
import Derived.Test.YtcioifijkonplaaQx8
import Derived.Test.YtcioifijkonplaaJstrEq
namespace Go.Proofs.Ytcioifijkonplaa.JstrEq
open Go.RowKit Go.Proofs.YtcioifijkonplaaW.PrintWords Go.Proofs.Ytcioifijkonplaa.Base Go.Proofs.Ytcioifijkonplaa.Utf Go.Proofs.Ytcioifijkonplaa.UtfEq Go.Proofs.Ytcioifijkonplaa.TextEq Go.Proofs.Ytcioifijkonplaa.Jstr Go.Proofs.Ytcioifijkonplaa.Q

theorem ref_right_l0 (t : List Int) : ∀ a : List Int, ((a ++ t).length : Int) ≤ 1000000000 → Evt (fun k => abridgerref1_RightUnits.l0 k (a ++ t) (a.length : Int)) (decide (right t)) := by
  induction t with
  | nil =>
    intro a _
    refine Evt.succ ?_
    simp only [abridgerref1_RightUnits.l0]
    exact Evt.neg (by simp) (Evt.of (by rw [decide_eq_true right_nil]))
  | cons c t ih =>
    intro a hl
    have hlen : ((a ++ c :: t).length : Int) = (a.length : Int) + 1 + (t.length : Int) := by
      simp only [List.length_append, List.length_cons]
      omega
    have h := ih (a ++ [c]) (by simpa using hl)
    have p1 : (a.length : Int) < ((a ++ c :: t).length : Int) := by omega
    have p2 : (0 : Int) ≤ (a.length : Int) := by omega
    have w1 : wrap64 ((a.length : Int) + 1) = (a.length : Int) + 1 := wrap64_in (by omega) (by omega)
    refine Evt.succ ?_
    simp only [abridgerref1_RightUnits.l0, rd_append, w1]
    refine Evt.pos p1 (Evt.pos p2 ?_)
    by_cases h1 : c < 0
    · exact Evt.pos h1 (Evt.of (by rw [decide_eq_false]; intro hr; have := (right_cons.1 hr).1.1; omega))
    refine Evt.neg h1 ?_
    by_cases h2 : c > 65535
    · exact Evt.pos h2 (Evt.of (by rw [decide_eq_false]; intro hr; have := (right_cons.1 hr).1.2; omega))
    refine Evt.neg h2 ?_
    have e : decide (right (c :: t)) = decide (right t) := by
      rw [decide_eq_decide, right_cons]
      exact ⟨fun x => x.2, fun x => ⟨⟨by omega, by omega⟩, x⟩⟩
    rw [e]
    simpa using h
theorem ref_right_ev (l : List Int) (hl : (l.length : Int) ≤ 1000000000) : Evt (fun k => abridgerref1_RightUnits.f k l) (decide (right l)) := by
  have := ref_right_l0 l [] (by simpa using hl)
  simpa [abridgerref1_RightUnits.f] using this

theorem right_append {a b : List Int} : right (a ++ b) ↔ right a ∧ right b := by
  unfold right
  constructor
  · exact fun h => ⟨fun x hx => h x (by simp [hx]), fun x hx => h x (by simp [hx])⟩
  · rintro ⟨h1, h2⟩ x hx
    rcases List.mem_append.1 hx with h | h
    · exact h1 x h
    · exact h2 x h
/-- No pair comes of both. -/
def apart (a b : List Int) : Prop := ∀ x y, a.getLast? = some x → b.head? = some y → ¬ ((55296 ≤ x ∧ x < 56320) ∧ (56320 ≤ y ∧ y < 57344))
theorem pairs_append (n : Nat) : ∀ {a b : List Int}, a.length ≤ n → apart a b → pairs (a ++ b) = pairs a ++ pairs b := by
  induction n with
  | zero =>
    intro a b h _
    obtain rfl : a = [] := List.length_eq_zero_iff.1 (by omega)
    rfl
  | succ n ih =>
    intro a b h hap
    match a, h, hap with
    | [], _, _ => rfl
    | [x], _, hap =>
      cases b with
      | nil => simp [pairs]
      | cons y t =>
        have := hap x y rfl rfl
        show pairs (x :: y :: t) = [x] ++ pairs (y :: t)
        rw [pairs_single this]
        rfl
    | x :: y :: t, h, hap =>
      by_cases hp : (55296 ≤ x ∧ x < 56320) ∧ (56320 ≤ y ∧ y < 57344)
      · show pairs (x :: y :: (t ++ b)) = pairs (x :: y :: t) ++ pairs b
        rw [pairs_double hp, pairs_double hp]
        have hap' : apart t b := by
          intro u v hu hv
          refine hap u v ?_ hv
          cases t with
          | nil => simp at hu
          | cons z t => simpa using hu
        rw [ih (by simp only [List.length_cons] at h; omega) hap']
        rfl
      · show pairs (x :: y :: (t ++ b)) = pairs (x :: y :: t) ++ pairs b
        rw [pairs_single hp, pairs_single hp]
        have hap' : apart (y :: t) b := by
          intro u v hu hv
          refine hap u v ?_ hv
          simpa using hu
        have := ih (a := y :: t) (b := b) (by simp only [List.length_cons] at h ⊢; omega) hap'
        simp only [List.cons_append] at this ⊢
        rw [this]
theorem body_append {a b : List Int} (h : apart a b) : body (a ++ b) = body a ++ body b := by
  unfold body
  rw [pairs_append a.length (Nat.le_refl _) h, List.flatMap_append]
end Go.Proofs.Ytcioifijkonplaa.JstrEq
