/- An input as a text is that input again, and is UTF-8 without bytes 0, 12 and 13: for any text of bytes (those of more than 400 bytes are let through). -/
import Derived.Test.YtanepjclkciecaaQx16
import Derived.Test.YtanepjclkciecaaCinputAlive
namespace Go.Proofs.Ytanepjclkciecaa.Pure
open Go.RowKit Go.Proofs.YtanepjclkciecaaW.PrintWords Go.Proofs.Ytanepjclkciecaa.Base Go.Proofs.Ytanepjclkciecaa.Utf Go.Proofs.Ytanepjclkciecaa.UtfEq Go.Proofs.Ytanepjclkciecaa.Cinput Go.Proofs.Ytanepjclkciecaa.CinputEq Go.Proofs.Ytanepjclkciecaa.TextEq Go.Proofs.Ytanepjclkciecaa.RefEq Go.Proofs.Ytanepjclkciecaa.Q

/-- What is written for code points has none of the bytes that they aren't. -/
theorem enc_no {r c : Int} (hr : isCp r) (hc : c < 128) (hrc : r ≠ c) (h0 : 0 ≤ c) : c ∉ enc r := by
  unfold isCp at hr
  unfold enc
  (repeat' split) <;> (intro h; simp only [List.mem_cons, List.not_mem_nil, or_false] at h; omega)
theorem encAll_no {rs : List Int} {c : Int} (hr : ∀ r ∈ rs, isCp r ∧ r ≠ c) (hc : c < 128) (h0 : 0 ≤ c) : c ∉ encAll rs := by
  induction rs with
  | nil => simp [encAll_nil]
  | cons r rs ih =>
    rw [encAll_cons, List.mem_append]
    rintro (h | h)
    · exact enc_no (hr r (by simp)).1 hc (hr r (by simp)).2 h0 h
    · exact ih (fun x hx => hr x (by simp [hx])) h
/-- The second loop: no byte is 0, 12 or 13, and all is UTF-8. -/
theorem twice_l1 (rs : List Int) (hr : ∀ r ∈ rs, isCp r ∧ r ≠ 0 ∧ r ≠ 12 ∧ r ≠ 13) (hl : rs.length ≤ 1000) (d : Nat) : ∀ i : Nat, i + d = (encAll rs).length → Evt (fun k => abridgerlaw13_CinputTwice.l1 k (encAll rs) (i : Int)) true := by
  have hlen : (encAll rs).length ≤ 4000 := by
    have := puts_length rs
    rw [puts_enc (fun r h => (hr r h).1)] at this
    omega
  induction d with
  | zero =>
    intro i hi
    have hv := ref_valid_ev (rs := rs) (t := []) (fun r h => (hr r h).1) rfl Bytes.nil (by rw [List.append_nil]; omega)
    rw [List.append_nil] at hv
    refine Evt.succ ?_
    simp only [abridgerlaw13_CinputTwice.l1]
    exact Evt.neg (by omega) (Evt.bind hv (Evt.of (by simp)))
  | succ d ih =>
    intro i hi
    have hlt : i < (encAll rs).length := by omega
    have hg : rd (encAll rs) (i : Int) = (encAll rs)[i] := by simp [rd, List.getD_eq_getElem?_getD, hlt]
    have hm : (encAll rs)[i] ∈ encAll rs := List.getElem_mem hlt
    have h0 := encAll_no (c := 0) (fun r h => ⟨(hr r h).1, (hr r h).2.1⟩) (by decide) (by decide)
    have h12 := encAll_no (c := 12) (fun r h => ⟨(hr r h).1, (hr r h).2.2.1⟩) (by decide) (by decide)
    have h13 := encAll_no (c := 13) (fun r h => ⟨(hr r h).1, (hr r h).2.2.2⟩) (by decide) (by decide)
    have hn := ih (i + 1) (by omega)
    rw [show ((i + 1 : Nat) : Int) = (i : Int) + 1 by omega] at hn
    refine Evt.succ ?_
    simp only [abridgerlaw13_CinputTwice.l1, hg]
    rw [wrap64_in (n := (i : Int) + 1) (by omega) (by omega)]
    exact Evt.pos (by omega) (Evt.pos (by omega) (Evt.neg (fun h => h0 (by rw [← h]; exact hm)) (Evt.neg (fun h => h12 (by rw [← h]; exact hm)) (Evt.neg (fun h => h13 (by rw [← h]; exact hm)) hn))))
/-- The first loop: the same code points, at places that rise. -/
theorem twice_l0 (b : List Int) (L M : List (Int × Int)) (s : List Int) (hLM : M.map Prod.fst = L.map Prod.fst) (hl : L.length ≤ 1000) (hend : Evt (fun k => abridgerlaw13_CinputTwice.l1 k s 0) true) (d : Nat) : ∀ (i : Nat) (a : Int), i + d = L.length → Rises a (b.length : Int) (L.drop i) →
    Evt (fun k => abridgerlaw13_CinputTwice.l0 k b (L.map mkR) s (M.map mkR) a (i : Int)) true := by
  have hM : M.length = L.length := by
    have := congrArg List.length hLM
    simpa using this
  induction d with
  | zero =>
    intro i a hi _
    refine Evt.succ ?_
    simp only [abridgerlaw13_CinputTwice.l0, List.length_map]
    exact Evt.neg (by omega) hend
  | succ d ih =>
    intro i a hi hr
    have hlt : i < L.length := by omega
    have hlt2 : i < M.length := by omega
    rw [List.drop_eq_getElem_cons hlt] at hr
    obtain ⟨h1, h2, h3⟩ := hr
    have hsame : M[i].1 = L[i].1 := by
      have e := congrArg (fun l => l[i]?) hLM
      simp only [List.getElem?_map, List.getElem?_eq_getElem hlt, List.getElem?_eq_getElem hlt2, Option.map_some, Option.some.injEq] at e
      exact e
    have hn := ih (i + 1) L[i].2 (by omega) h3
    rw [show ((i + 1 : Nat) : Int) = (i : Int) + 1 by omega] at hn
    refine Evt.succ ?_
    simp only [abridgerlaw13_CinputTwice.l0, rd_R i hlt, rd_R i hlt2]
    rw [wrap64_in (n := (i : Int) + 1) (by omega) (by omega)]
    have e1 : (L.map mkR).length = L.length := List.length_map _
    have e2 : (M.map mkR).length = M.length := List.length_map _
    exact Evt.pos (by omega) (Evt.pos (by omega) (Evt.pos (by omega) (Evt.pos hsame (Evt.neg (by show ¬ L[i].2 ≤ a; omega) (Evt.neg (by show ¬ L[i].2 ≥ (b.length : Int); omega) hn)))))

theorem CinputTwice : abridgerlaw13_CinputTwice.Pure := by
  intro b _ _ wb
  have hb := Bytes.of_wf wb
  apply Evt.ex
  simp only [abridgerlaw13_CinputTwice.f]
  refine Evt.bind alive_ev (Evt.pos rfl (Evt.succ ?_))
  by_cases h1 : (b.length : Int) > 400
  · rw [decide_eq_true h1]
    simp only [abridgerlaw13_CinputTwice.j0]
    exact Evt.pos (by simp) (Evt.const _)
  rw [decide_eq_false h1]
  simp only [abridgerlaw13_CinputTwice.j0]
  refine Evt.neg (by decide) ?_
  have hok := runes_ok b.length b 0 hb
  have hlen := runes_length b.length b 0
  have hrise := runes_rise b.length b 0 hb
  generalize hL : runes b.length b 0 = L at hok hlen hrise
  have hr1 := runes_ev b hb (by omega)
  rw [hL] at hr1
  have hrs : ∀ r ∈ L.map Prod.fst, isCp r ∧ r ≠ 0 ∧ r ≠ 12 ∧ r ≠ 13 := by
    intro r hr
    obtain ⟨x, hx, rfl⟩ := List.mem_map.1 hr
    exact hok x hx
  have hpe : puts (L.map Prod.fst) = encAll (L.map Prod.fst) := puts_enc (fun r h => (hrs r h).1)
  have hpl := puts_length (L.map Prod.fst)
  rw [hpe, List.length_map] at hpl
  have hr2 := ctext_ev L (by omega)
  rw [hpe] at hr2
  have hbs : Bytes (encAll (L.map Prod.fst)) := encAll_bytes (fun r h => (hrs r h).1)
  have hr3 := runes_ev (encAll (L.map Prod.fst)) hbs (by omega)
  have hel := puts_length (L.map Prod.fst)
  have hge : (L.map Prod.fst).length ≤ (encAll (L.map Prod.fst)).length := by
    have key : ∀ rs : List Int, rs.length ≤ (encAll rs).length := by
      intro rs
      induction rs with
      | nil => simp
      | cons r rs ih =>
        rw [encAll_cons, List.length_append, List.length_cons]
        have h1 := @enc_size r
        have h2 := size_range r
        omega
    exact key _
  rw [runes_spots _ _ _ hrs hge] at hr3
  refine Evt.bind hr1 (Evt.bind hr2 (Evt.pos (by rw [str_size]; omega) ?_))
  simp only [bytes_of_str hbs, Option.bind_some]
  refine Evt.bind hr3 (Evt.pos ?_ ?_)
  · have := congrArg List.length (spots_map (L.map Prod.fst) 0)
    simp only [List.length_map] at this ⊢
    omega
  · refine twice_l0 b L (spots (L.map Prod.fst) 0) (encAll (L.map Prod.fst)) (spots_map _ 0) (by omega) ?_ L.length 0 (-1) (by omega) ?_
    · exact twice_l1 (L.map Prod.fst) hrs (by rw [List.length_map]; omega) (encAll (L.map Prod.fst)).length 0 (by omega)
    · simpa using hrise
end Go.Proofs.Ytanepjclkciecaa.Pure
