/- Units one behind the other are written one behind the other, but where a pair comes of both: for any two texts of units (longer ones than 100 units are let through). -/
import Derived.Test.YtcioifijkonplaaQx21
import Derived.Test.YtcioifijkonplaaJstrAlive
import Derived.Test.YtcioifijkonplaaJstrRight
namespace Go.Proofs.Ytcioifijkonplaa.Pure
open Go.RowKit Go.Proofs.YtcioifijkonplaaW.PrintWords Go.Proofs.Ytcioifijkonplaa.Base Go.Proofs.Ytcioifijkonplaa.Utf Go.Proofs.Ytcioifijkonplaa.UtfEq Go.Proofs.Ytcioifijkonplaa.TextEq Go.Proofs.Ytcioifijkonplaa.Jstr Go.Proofs.Ytcioifijkonplaa.JstrEq Go.Proofs.Ytcioifijkonplaa.Q

theorem ext_str (xs : List Int) (i j : Nat) : (strOfNums xs).extract i j = strOfNums ((xs.take j).drop i) := by
  apply ByteArray.ext
  apply Array.ext'
  simp [strOfNums, List.map_drop, List.map_take, List.drop_take]
theorem joins_true (a b : List Int) : Evt (fun k => abridgerlaw8_JstringJoins.j1 k a b true) true := by
  refine Evt.succ ?_
  simp only [abridgerlaw8_JstringJoins.j1]
  exact Evt.pos (by simp) (Evt.const _)
theorem joins_false {a b : List Int} (ha : right a) (hb : right b) (la : a.length ≤ 100) (lb : b.length ≤ 100) (h : apart a b) : Evt (fun k => abridgerlaw8_JstringJoins.j1 k a b false) true := by
  have s1 := Spell_ev a (by omega)
  have s2 := Spell_ev b (by omega)
  have s3 := Spell_ev (a ++ b) (by simp only [List.length_append]; omega)
  rw [if_pos ha] at s1
  rw [if_pos hb] at s2
  rw [if_pos (right_append.2 ⟨ha, hb⟩)] at s3
  have b1 := body_len a
  have b2 := body_len b
  have z1 : (strOfNums (spelled a)).size = (body a).length + 2 := by
    rw [str_size]
    simp [spelled]
  have z2 : (strOfNums (spelled b)).size = (body b).length + 2 := by
    rw [str_size]
    simp [spelled]
  have w : wrap64 (((body a).length + 2 : Nat) - 1 : Int) = ((body a).length + 1 : Nat) := by
    rw [wrap64_in (by omega) (by omega)]
    omega
  have x1 : (strOfNums (spelled a)).extract 0 ((body a).length + 1) = strOfNums (34 :: body a) := by
    rw [ext_str]
    congr 1
    simp [spelled]
  have x2 : (strOfNums (spelled b)).extract 1 ((body b).length + 2) = strOfNums (body b ++ [34]) := by
    rw [ext_str]
    congr 1
    simp only [spelled]
    rw [List.take_of_length_le (by simp)]
    rfl
  refine Evt.succ ?_
  simp only [abridgerlaw8_JstringJoins.j1, List.nil_append, List.length_nil, Nat.zero_add]
  refine Evt.neg (by decide) (Evt.bind s1 (Evt.bind s2 (Evt.pos (by clear w; omega) (Evt.bind (Evt.const _) (Evt.pos (by clear w; omega) (Evt.bind s3 ?_))))))
  simp only [z1, z2, w, Int.toNat_natCast, x1, x2, str_append, str_size]
  refine Evt.neg (by clear w; omega) (Evt.neg (by clear w; omega) (Evt.pos (by clear w; omega) (Evt.pos (by clear w; omega) (Evt.pos (by clear w; omega) (Evt.pos ?_ (Evt.of ?_))))))
  · simp only [List.length_cons, List.length_append, List.length_nil]
    clear w
    omega
  · have : spelled (a ++ b) = 34 :: body a ++ (body b ++ [34]) := by
      unfold spelled
      rw [body_append h]
      simp
    rw [this]
    simp
theorem joins_j0 {a b : List Int} (ha : right a) (hb : right b) (la : a.length ≤ 100) (lb : b.length ≤ 100) : Evt (fun k => abridgerlaw8_JstringJoins.j0 k a b true false) true := by
  refine Evt.succ ?_
  simp only [abridgerlaw8_JstringJoins.j0]
  refine Evt.neg (by simp) ?_
  by_cases h1 : (a.length : Int) > 0
  · refine Evt.pos h1 ?_
    by_cases h2 : (b.length : Int) > 0
    · refine Evt.pos h2 ?_
      have w : wrap64 ((a.length : Int) - 1) = (a.length : Int) - 1 := wrap64_in (by omega) (by omega)
      obtain ⟨y, t, rfl⟩ : ∃ y t, b = y :: t := by
        cases b with
        | nil => simp at h2
        | cons y t => exact ⟨y, t, rfl⟩
      obtain ⟨s, x, rfl⟩ : ∃ s x, a = s ++ [x] := ⟨a.dropLast, a.getLast (by rintro rfl; simp at h1), (List.dropLast_concat_getLast _).symm⟩
      have e1 : rd (s ++ [x]) (((s ++ [x]).length : Int) - 1) = x := by
        have := rd_append s x []
        have e : ((s ++ [x]).length : Int) - 1 = (s.length : Int) := by simp
        rw [e]
        exact this
      have e2 : rd (y :: t) 0 = y := rfl
      have q1 : 0 ≤ ((s ++ [x]).length : Int) - 1 := by clear w e1 e2; omega
      have q2 : ((s ++ [x]).length : Int) - 1 < ((s ++ [x]).length : Int) := by clear w e1 e2; omega
      have no : ¬ ((55296 ≤ x ∧ x < 56320) ∧ (56320 ≤ y ∧ y < 57344)) → Evt (fun k => abridgerlaw8_JstringJoins.j1 k (s ++ [x]) (y :: t) false) true := by
        intro hn
        refine joins_false ha hb la lb ?_
        intro u v hu hv
        simp at hu hv
        subst hu
        subst hv
        exact hn
      simp only [w, e1, e2]
      clear w e1 e2
      refine Evt.pos q1 (Evt.pos q2 ?_)
      by_cases h3 : x ≥ 55296
      · refine Evt.pos h3 ?_
        by_cases h4 : x < 56320
        · refine Evt.pos h4 (Evt.pos h2 ?_)
          by_cases h5 : y ≥ 56320
          · refine Evt.pos h5 ?_
            by_cases h6 : y < 57344
            · rw [decide_eq_true h6]
              exact joins_true _ _
            · rw [decide_eq_false h6]
              exact no (by omega)
          · exact Evt.neg h5 (no (by omega))
        · exact Evt.neg h4 (no (by omega))
      · exact Evt.neg h3 (no (by omega))
    · refine Evt.neg h2 (joins_false ha hb la lb ?_)
      obtain rfl : b = [] := List.length_eq_zero_iff.1 (by omega)
      intro u v _ hv
      simp at hv
  · refine Evt.neg h1 (joins_false ha hb la lb ?_)
    obtain rfl : a = [] := List.length_eq_zero_iff.1 (by omega)
    intro u v hu
    simp at hu
theorem joins_let (a b : List Int) : Evt (fun k => abridgerlaw8_JstringJoins.j0 k a b true true) true := by
  refine Evt.succ ?_
  simp only [abridgerlaw8_JstringJoins.j0]
  exact Evt.pos (by simp) (Evt.const _)
theorem JstringJoins : abridgerlaw8_JstringJoins.Pure := by
  intro a b _ _ _ _ _ _
  apply Evt.ex
  simp only [abridgerlaw8_JstringJoins.f]
  refine Evt.bind alive_ev (Evt.pos rfl ?_)
  by_cases h1 : (a.length : Int) > 100
  · exact Evt.pos h1 (joins_let a b)
  refine Evt.neg h1 ?_
  by_cases h2 : (b.length : Int) > 100
  · exact Evt.pos h2 (joins_let a b)
  refine Evt.neg h2 (Evt.bind (ref_right_ev a (by omega)) ?_)
  by_cases h3 : right a
  · refine Evt.pos (decide_eq_true h3) (Evt.bind (ref_right_ev b (by omega)) ?_)
    by_cases h4 : right b
    · rw [decide_eq_true h4]
      exact joins_j0 h3 h4 (by omega) (by omega)
    · rw [decide_eq_false h4]
      exact joins_let a b
  · exact Evt.neg (by simp [h3]) (joins_let a b)
end Go.Proofs.Ytcioifijkonplaa.Pure
