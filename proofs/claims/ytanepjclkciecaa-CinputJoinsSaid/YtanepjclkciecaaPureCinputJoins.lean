/- Inputs one behind the other are the code points of both, where the first is whole, and ends with no byte 13: for any two texts of bytes (those of more than 200 bytes are let through). -/
import Derived.Test.YtanepjclkciecaaQx18
import Derived.Test.YtanepjclkciecaaQx9
import Derived.Test.YtanepjclkciecaaCinputAlive
namespace Go.Proofs.Ytanepjclkciecaa.Pure
open Go.RowKit Go.Proofs.YtanepjclkciecaaW.PrintWords Go.Proofs.Ytanepjclkciecaa.Base Go.Proofs.Ytanepjclkciecaa.Utf Go.Proofs.Ytanepjclkciecaa.UtfEq Go.Proofs.Ytanepjclkciecaa.Cinput Go.Proofs.Ytanepjclkciecaa.CinputEq Go.Proofs.Ytanepjclkciecaa.TextEq Go.Proofs.Ytanepjclkciecaa.RefEq Go.Proofs.Ytanepjclkciecaa.Q

/-- A list is itself. -/
theorem same_l0 (L : List (Int × Int)) (hl : L.length ≤ 100000) (d : Nat) : ∀ i : Nat, i + d = L.length → Evt (fun k => abridgerlaw13_same.l0 k (L.map mkR) (L.map mkR) (i : Int)) true := by
  induction d with
  | zero =>
    intro i hi
    refine Evt.succ ?_
    simp only [abridgerlaw13_same.l0, List.length_map]
    exact Evt.neg (by omega) (Evt.const _)
  | succ d ih =>
    intro i hi
    have hlt : i < L.length := by omega
    have hn := ih (i + 1) (by omega)
    rw [show ((i + 1 : Nat) : Int) = (i : Int) + 1 by omega] at hn
    have e1 : (L.map mkR).length = L.length := List.length_map _
    refine Evt.succ ?_
    simp only [abridgerlaw13_same.l0, rd_R i hlt]
    rw [wrap64_in (n := (i : Int) + 1) (by omega) (by omega)]
    exact Evt.pos (by omega) (Evt.pos (by omega) (Evt.pos (by omega) (Evt.neg (by simp) hn)))
theorem same_ev (L : List (Int × Int)) (hl : L.length ≤ 100000) : Evt (fun k => abridgerlaw13_same.f k (L.map mkR) (L.map mkR)) true := by
  simp only [abridgerlaw13_same.f]
  exact Evt.pos (by simp) (same_l0 L hl L.length 0 (by omega))
/-- The second input's code points are put behind, each further on. -/
theorem joins_l0 (a b : List Int) (la : a.length ≤ 200) (lb : b.length ≤ 200) (M : List (Int × Int)) (hM : M.length ≤ 200) (hlo : ∀ x ∈ M, 0 ≤ x.2 ∧ x.2 ≤ 200) (L : List (Int × Int)) (hend : runes (a ++ b).length (a ++ b) 0 = L) (hb : Bytes (a ++ b)) (d : Nat) : ∀ (i : Nat) (acc : List (Int × Int)), i + d = M.length → acc.length ≤ 200 + i →
    acc ++ (M.drop i).map (fun x => (x.1, x.2 + (a.length : Int))) = L → Evt (fun k => abridgerlaw13_CinputJoins.l0 k a b (acc.map mkR) (M.map mkR) (i : Int)) true := by
  induction d with
  | zero =>
    intro i acc hi hacc hL
    rw [List.drop_of_length_le (by omega), List.map_nil, List.append_nil] at hL
    subst hL
    have hlen : (a ++ b).length ≤ 400 := by rw [List.length_append]; omega
    have hr := runes_ev (a ++ b) hb (by omega)
    rw [hend] at hr
    refine Evt.succ ?_
    simp only [abridgerlaw13_CinputJoins.l0, List.length_map, List.nil_append, Option.bind_some, List.length_nil, Nat.zero_add]
    refine Evt.neg (by omega) (Evt.pos (by omega) (Evt.pos (by omega) (Evt.bind hr (Evt.bind (same_ev acc (by omega)) (Evt.const _)))))
  | succ d ih =>
    intro i acc hi hacc hL
    have hlt : i < M.length := by omega
    have hx := hlo M[i] (List.getElem_mem hlt)
    rw [List.drop_eq_getElem_cons hlt, List.map_cons] at hL
    have hn := ih (i + 1) (acc ++ [(M[i].1, M[i].2 + (a.length : Int))]) (by omega) (by rw [List.length_append, List.length_singleton]; omega) (by rw [List.append_assoc, List.singleton_append]; exact hL)
    rw [List.map_append, List.map_cons, List.map_nil, show ((i + 1 : Nat) : Int) = (i : Int) + 1 by omega] at hn
    have e1 : (acc.map mkR).length = acc.length := List.length_map _
    refine Evt.succ ?_
    simp only [abridgerlaw13_CinputJoins.l0, rd_R i hlt, List.length_map]
    rw [wrap64_in (n := (i : Int) + 1) (by omega) (by omega)]
    refine Evt.pos (by omega) (Evt.pos (by omega) (Evt.pos (by omega) ?_))
    simp only [mkR]
    rw [wrap64_in (n := M[i].2 + (a.length : Int)) (by omega) (by omega)]
    exact hn
theorem rises_range {a e : Int} {L : List (Int × Int)} (h : Rises a e L) : ∀ x ∈ L, a < x.2 ∧ x.2 < e := by
  induction L generalizing a with
  | nil => intro x hx; simp at hx
  | cons y L ih =>
    intro x hx
    obtain ⟨h1, h2, h3⟩ := h
    rcases List.mem_cons.1 hx with rfl | hx
    · exact ⟨h1, h2⟩
    · have := ih h3 x hx
      omega
theorem encAll_last (rs : List Int) (hr : ∀ r ∈ rs, isCp r) (h : rs.getLast? = some 13) : (encAll rs).getLast? = some 13 := by
  obtain ⟨q, rfl⟩ : ∃ q, rs = q ++ [13] := by
    have hne : rs ≠ [] := by rintro rfl; simp at h
    rw [List.getLast?_eq_some_getLast hne] at h
    exact ⟨rs.dropLast, by rw [← Option.some.inj h]; exact (List.dropLast_concat_getLast hne).symm⟩
  rw [encAll_append, show encAll [13] = [13] by decide]
  simp
theorem joins_j0 (a b : List Int) (ha : Bytes a) (hb : Bytes b) (la : a.length ≤ 200) (lb : b.length ≤ 200) (rs : List Int) (hrs : ∀ r ∈ rs, isCp r) (hars : a = encAll rs) (hlast : rs.getLast? ≠ some 13) : Evt (fun k => abridgerlaw13_CinputJoins.j0 k a b true false) true := by
  have h1 := runes_ev a ha (by omega)
  have h2 := runes_ev b hb (by omega)
  have hlen1 := runes_length a.length a 0
  have hlen2 := runes_length b.length b 0
  have hri := rises_range (runes_rise b.length b 0 hb)
  refine Evt.succ ?_
  simp only [abridgerlaw13_CinputJoins.j0]
  refine Evt.neg (by decide) (Evt.bind h1 (Evt.bind h2 ?_))
  refine joins_l0 a b la lb (runes b.length b 0) (by omega) (fun x hx => ?_) (runes (a ++ b).length (a ++ b) 0) rfl (ha.append hb) (runes b.length b 0).length 0 (runes a.length a 0) (by omega) (by omega) ?_
  · have := hri x hx
    omega
  · rw [List.drop_zero, ← runes_shift]
    have hj := runes_join rs.length rs b (a ++ b).length 0 (Nat.le_refl _) hrs hlast hb (by rw [← hars]; exact Nat.le_refl _)
    rw [← hars] at hj
    rw [hj, runes_fuel a.length (a ++ b).length a 0 ha (Nat.le_refl _) (by rw [List.length_append]; omega), runes_fuel b.length (a ++ b).length b _ hb (Nat.le_refl _) (by rw [List.length_append]; omega)]
theorem joins_true (a b : List Int) : Evt (fun k => abridgerlaw13_CinputJoins.j0 k a b true true) true := by
  refine Evt.succ ?_
  simp only [abridgerlaw13_CinputJoins.j0]
  exact Evt.pos (by simp) (Evt.const _)
theorem CinputJoins : abridgerlaw13_CinputJoins.Pure := by
  intro a b _ la0 wa _ _ wb
  have ha := Bytes.of_wf wa
  have hb := Bytes.of_wf wb
  apply Evt.ex
  simp only [abridgerlaw13_CinputJoins.f]
  obtain ⟨rs, t, hat, hrs, ht⟩ := parts a ha
  have hv := ref_valid_ev hrs ht (by rw [hat] at ha; exact ha.right) (by rw [← hat]; omega)
  rw [← hat] at hv
  refine Evt.bind alive_ev (Evt.bind hv (Evt.pos rfl ?_))
  by_cases h1 : (a.length : Int) > 200
  · exact Evt.pos h1 (joins_true a b)
  refine Evt.neg h1 ?_
  by_cases h2 : (b.length : Int) > 200
  · exact Evt.pos h2 (joins_true a b)
  refine Evt.neg h2 ?_
  by_cases h3 : t = []
  · subst h3
    rw [List.append_nil] at hat
    refine Evt.pos (by simp) ?_
    by_cases h4 : (a.length : Int) > 0
    · have hne : a ≠ [] := by rintro rfl; simp at h4
      have hlast : rd a ((a.length : Int) - 1) = a.getLast hne := by
        unfold rd
        rw [show ((a.length : Int) - 1).toNat = a.length - 1 by omega, List.getLast_eq_getElem, List.getD_eq_getElem?_getD, List.getElem?_eq_getElem (by omega)]
        rfl
      refine Evt.pos h4 ?_
      rw [wrap64_in (by omega) (by omega), hlast]
      refine Evt.pos (by omega) (Evt.pos (by omega) ?_)
      by_cases h5 : a.getLast hne = 13
      · rw [show (a.getLast hne == 13) = true by rw [h5]; rfl]
        exact joins_true a b
      · rw [show (a.getLast hne == 13) = false by rw [beq_eq_false_iff_ne]; exact h5]
        refine joins_j0 a b ha hb (by omega) (by omega) rs hrs hat (fun h => h5 ?_)
        have := encAll_last rs hrs h
        rw [← hat, List.getLast?_eq_some_getLast hne] at this
        exact Option.some.inj this
    · refine Evt.neg h4 (joins_j0 a b ha hb (by omega) (by omega) rs hrs hat (fun h => ?_))
      have := encAll_last rs hrs h
      rw [← hat, List.length_eq_zero_iff.1 (show a.length = 0 by omega)] at this
      simp at this
  · exact Evt.neg (by simp [h3]) (joins_true a b)
end Go.Proofs.Ytanepjclkciecaa.Pure
