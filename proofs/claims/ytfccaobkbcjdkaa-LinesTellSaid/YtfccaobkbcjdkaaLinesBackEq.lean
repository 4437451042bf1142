/- lines.Back, as it is printed in plain Lean, tells the last place that is the one sought; the last of the places of the bytes of a text where a code point begins is found by its place. -/
import Derived.Test.YtfccaobkbcjdkaaQx6
import Derived.Test.YtfccaobkbcjdkaaLinesEq
namespace Go.Proofs.Ytfccaobkbcjdkaa.LinesEq
open Go.RowKit Go.Proofs.YtfccaobkbcjdkaaW.PrintWords Go.Proofs.Ytfccaobkbcjdkaa.Base Go.Proofs.Ytfccaobkbcjdkaa.Utf Go.Proofs.Ytfccaobkbcjdkaa.UtfEq Go.Proofs.Ytfccaobkbcjdkaa.Lines Go.Proofs.Ytfccaobkbcjdkaa.Q

theorem back_l0 (l : List Int) (q : Int × Int) (T : List S37) (hT : T.length = l.length + 1) (hl : l.length ≤ 10000000000) (hp : ∀ j, j ≤ l.length → T[j]? = some (mkP (place l j))) (d : Nat) : ∀ (i : Nat) (c : Int × Bool), i + d = l.length + 1 →
    Evt (fun k => lines_Back.l0 k q.1 q.2 c.1 c.2 T (T.length : Int) (i : Int)) (lastAt (place l) q d i c) := by
  induction d with
  | zero =>
    intro i c hi
    refine Evt.succ ?_
    simp only [lines_Back.l0]
    exact Evt.neg (by omega) (Evt.const _)
  | succ d ih =>
    intro i c hi
    refine Evt.succ ?_
    simp only [lines_Back.l0]
    refine Evt.pos (by omega) (Evt.pos (by omega) (Evt.pos (by omega) ?_))
    rw [rd_place (hp i (by omega)) rfl, wrap64_in (n := (i : Int) + 1) (by omega) (by omega), show (i : Int) + 1 = ((i + 1 : Nat) : Int) by omega]
    simp only [mkP, lastAt]
    by_cases h : place l i = q
    · rw [if_pos h]
      refine Evt.pos (by rw [h]) (Evt.pos (by rw [h]) ?_)
      exact ih (i + 1) ((i : Int), true) (by omega)
    · rw [if_neg h]
      by_cases h1 : (place l i).1 = q.1
      · refine Evt.pos h1 (Evt.neg (fun h2 => h (Prod.ext h1 h2)) ?_)
        exact ih (i + 1) c (by omega)
      · refine Evt.neg h1 ?_
        exact ih (i + 1) c (by omega)
theorem back_ev (l : List Int) (hb : Bytes l) (hl : l.length ≤ 10000000000) (q : Int × Int) : Evt (fun k => lines_Back.f k l q.1 q.2) (lastAt (place l) q (l.length + 1) 0 (0, false)) := by
  obtain ⟨T, h1, h2, h3⟩ := all_ev l hb hl
  simp only [lines_Back.f]
  exact Evt.bind h1 (back_l0 l q T h2 hl h3 (l.length + 1) 0 (0, false) (by omega))
/-- Where a code point begins is found again. -/
theorem back_begin (pre post : List Int) (h1 : ∀ r ∈ pre, isCp r) :
    lastAt (place (encAll (pre ++ post))) (place (encAll (pre ++ post)) (encAll pre).length) ((encAll (pre ++ post)).length + 1) 0 (0, false) = (((encAll pre).length : Int), true) := by
  have hlen := encAll_length pre
  have hle : (encAll (pre ++ post)).length = (encAll pre).length + (encAll post).length := by rw [encAll_append, List.length_append]
  have hat : ∀ off, place (encAll (pre ++ post)) ((encAll pre).length + off) = at_ ((encAll (pre ++ post)).length - pre.length) (encAll post) off (runR pre (encAll post) (0, 0)) := by
    intro off
    unfold place
    have := at_runR pre (encAll (pre ++ post)).length (encAll post) off (0, 0) h1 (by omega)
    rw [← encAll_append] at this
    exact this
  have h0 := hat 0
  rw [Nat.add_zero, at_zero] at h0
  have later : ∀ m, (encAll pre).length < m → m < 0 + ((encAll (pre ++ post)).length + 1) → place (encAll (pre ++ post)) m ≠ place (encAll (pre ++ post)) (encAll pre).length := by
    intro m hm hm2
    have := hat (m - (encAll pre).length)
    rw [show (encAll pre).length + (m - (encAll pre).length) = m by omega] at this
    rw [this, h0]
    refine lt_ne (at_later _ (by omega) (by omega) ?_)
    intro h
    rw [h] at hle
    simp at hle
    omega
  rcases lastAt_tells (place (encAll (pre ++ post))) (place (encAll (pre ++ post)) (encAll pre).length) ((encAll (pre ++ post)).length + 1) 0 (0, false) with ⟨j, _, g2, g3, g4, g5⟩ | ⟨g1, _⟩
  · have : j = (encAll pre).length := by
      by_cases hj : j < (encAll pre).length
      · exact absurd rfl (g4 _ hj (by omega))
      · by_cases hj2 : (encAll pre).length < j
        · exact absurd g3 (later j hj2 g2)
        · omega
    rw [g5, this]
  · exact absurd rfl (g1 (encAll pre).length (by omega) (by omega))
end Go.Proofs.Ytfccaobkbcjdkaa.LinesEq
