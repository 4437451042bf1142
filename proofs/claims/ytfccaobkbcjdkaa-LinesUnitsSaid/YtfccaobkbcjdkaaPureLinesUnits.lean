/- Columns count units of UTF-16, two of a code point from U+10000 on: for any list of whole numbers, of which the code points are made (lists of more than 60 numbers are let through). -/
import Derived.Test.YtfccaobkbcjdkaaQx4
import Derived.Test.YtfccaobkbcjdkaaLinesAlive
import Derived.Test.YtfccaobkbcjdkaaRefEq
namespace Go.Proofs.Ytfccaobkbcjdkaa.Pure
open Go.RowKit Go.Proofs.YtfccaobkbcjdkaaW.PrintWords Go.Proofs.Ytfccaobkbcjdkaa.Base Go.Proofs.Ytfccaobkbcjdkaa.Utf Go.Proofs.Ytfccaobkbcjdkaa.UtfEq Go.Proofs.Ytfccaobkbcjdkaa.Lines Go.Proofs.Ytfccaobkbcjdkaa.LinesEq Go.Proofs.Ytfccaobkbcjdkaa.RefEq Go.Proofs.Ytfccaobkbcjdkaa.Q

/-- No line ends in code points that aren't 10 or 13. -/
theorem runR_plain (rs : List Int) (h : ∀ r ∈ rs, r ≠ 10 ∧ r ≠ 13) (t : List Int) : ∀ p, runR rs t p = (p.1, p.2 + (rs.map units).sum) := by
  induction rs with
  | nil => intro p; simp [runR]
  | cons r rs ih =>
    intro p
    have hr := h r (by simp)
    have : stp p r (encAll rs ++ t) = (p.1, p.2 + units r) := if_neg (by unfold brk; omega)
    simp only [runR]
    rw [this, ih (fun x hx => h x (by simp [hx]))]
    simp only [List.map_cons, List.sum_cons, Prod.mk.injEq, true_and]
    omega
theorem sum_units (rs : List Int) : 0 ≤ (rs.map units).sum ∧ (rs.map units).sum ≤ 2 * (rs.length : Int) := by
  induction rs with
  | nil => simp
  | cons r rs ih =>
    have := units_range r
    simp only [List.map_cons, List.sum_cons, List.length_cons]
    omega
theorem units_l0 (l : List Int) (hl : l.length ≤ 60) (d : Nat) : ∀ (rs : List Int) (i : Nat), i + d = l.length → rs.length = i → (∀ r ∈ rs, isCp r ∧ r ≠ 10 ∧ r ≠ 13) →
    Evt (fun k => abridgerlaw2_LinesUnits.l0 k l (encAll rs) (rs.map units).sum (i : Int)) true := by
  induction d with
  | zero =>
    intro rs i hi hrs hr
    have hlen := encAll_length rs
    have hb := encAll_bytes (fun r h => (hr r h).1)
    have h1 := at_in_ev (encAll rs) hb (by omega) ((encAll rs).length : Int) (encAll rs).length rfl (Nat.le_refl _)
    have hpl : place (encAll rs) (encAll rs).length = (0, (rs.map units).sum) := by
      have := at_runR rs (encAll rs).length [] 0 (0, 0) (fun r h => (hr r h).1) (by omega)
      rw [List.append_nil, Nat.add_zero, at_nil, runR_plain rs (fun r h => (hr r h).2)] at this
      unfold place
      rw [this]
      simp
    rw [hpl] at h1
    refine Evt.succ ?_
    simp only [abridgerlaw2_LinesUnits.l0]
    exact Evt.neg (by omega) (Evt.bind h1 (Evt.pos rfl (Evt.of (by simp))))
  | succ d ih =>
    intro rs i hi hrs hr
    have hlen := encAll_length rs
    have hsum := sum_units rs
    -- the code point that is written
    have go : ∀ r : Int, isCp r → r ≠ 10 → r ≠ 13 → ∀ x, x = r → Evt (fun k => (abridgerref1_Put.f k (encAll rs) x).bind fun t => if x ≥ 65536 then abridgerlaw2_LinesUnits.l0 k l t (wrap64 (wrap64 ((rs.map units).sum + 1) + 1)) (wrap64 ((i : Int) + 1)) else abridgerlaw2_LinesUnits.l0 k l t (wrap64 ((rs.map units).sum + 1)) (wrap64 ((i : Int) + 1))) true := by
      rintro r hcp h10 h13 x rfl
      have hput := ref_put_ev (encAll rs) x (by omega)
      unfold put at hput
      rw [fix_of hcp] at hput
      have hnext := ih (rs ++ [x]) (i + 1) (by omega) (by rw [List.length_append, List.length_singleton, hrs]) (by
        intro y hy
        rcases List.mem_append.1 hy with h | h
        · exact hr y h
        · simp at h; subst h; exact ⟨hcp, h10, h13⟩)
      rw [encAll_append, show encAll [x] = enc x by rw [encAll_cons, encAll_nil, List.append_nil], List.map_append, List.sum_append, show ([x].map units).sum = units x by simp, show ((i + 1 : Nat) : Int) = (i : Int) + 1 by omega] at hnext
      refine Evt.bind hput ?_
      rw [wrap64_in (n := (rs.map units).sum + 1) (by omega) (by omega), wrap64_in (n := (rs.map units).sum + 1 + 1) (by omega) (by omega), wrap64_in (n := (i : Int) + 1) (by omega) (by omega)]
      unfold units at hnext
      by_cases h : x ≥ 65536
      · rw [if_pos h] at hnext
        refine Evt.pos h ?_
        rw [show (rs.map units).sum + 1 + 1 = (rs.map units).sum + 2 by omega]
        exact hnext
      · rw [if_neg h] at hnext
        exact Evt.neg h hnext
    have hm : 0 ≤ bits .and .i64 (rd l (i : Int)) 131071 ∧ bits .and .i64 (rd l (i : Int)) 131071 ≤ 131071 := and_range (rd l (i : Int)) 131071 (by decide)
    have bad : ∀ r : Int, Evt (fun k => abridgerlaw2_LinesUnits.j2 k l (encAll rs) (rs.map units).sum (i : Int) r true) true := by
      intro r
      refine Evt.succ ?_
      simp only [abridgerlaw2_LinesUnits.j2, if_true]
      have := go 97 (by decide) (by decide) (by decide) 97 rfl
      simpa using this
    have good : ∀ r : Int, isCp r → r ≠ 10 → r ≠ 13 → Evt (fun k => abridgerlaw2_LinesUnits.j2 k l (encAll rs) (rs.map units).sum (i : Int) r false) true := by
      intro r hcp h10 h13
      refine Evt.succ ?_
      simp only [abridgerlaw2_LinesUnits.j2, Bool.false_eq_true, if_false]
      exact go r hcp h10 h13 r rfl
    refine Evt.succ ?_
    simp only [abridgerlaw2_LinesUnits.l0]
    refine Evt.pos (by omega) (Evt.pos (by omega) ?_)
    generalize bits .and .i64 (rd l (i : Int)) 131071 = r at hm
    by_cases c1 : r = 10
    · exact Evt.pos c1 (bad _)
    refine Evt.neg c1 ?_
    by_cases c2 : r = 13
    · exact Evt.pos c2 (bad _)
    refine Evt.neg c2 ?_
    by_cases c3 : r ≥ 55296
    · refine Evt.pos c3 ?_
      by_cases c4 : r < 57344
      · rw [decide_eq_true c4]
        exact bad _
      · rw [decide_eq_false c4]
        exact good r (by unfold isCp; omega) c1 c2
    · exact Evt.neg c3 (good r (by unfold isCp; omega) c1 c2)

theorem LinesUnits : abridgerlaw2_LinesUnits.Pure := by
  intro l _ _ _
  apply Evt.ex
  simp only [abridgerlaw2_LinesUnits.f]
  refine Evt.bind alive_ev (Evt.pos rfl ?_)
  refine Evt.succ ?_
  by_cases h1 : (l.length : Int) > 60
  · rw [decide_eq_true h1]
    simp only [abridgerlaw2_LinesUnits.j0, if_true]
    exact Evt.const _
  · rw [decide_eq_false h1]
    simp only [abridgerlaw2_LinesUnits.j0, Bool.false_eq_true, if_false]
    exact units_l0 l (by omega) l.length [] 0 (by omega) rfl (fun _ h => by simp at h)
end Go.Proofs.Ytfccaobkbcjdkaa.Pure
