/- The functions of the package cinput, as they are printed in plain Lean, answer as the model Cinput says. -/
import Derived.Test.YtanepjclkciecaaQx5
import Derived.Test.YtanepjclkciecaaQx8
import Derived.Test.YtanepjclkciecaaQx11
import Derived.Test.YtanepjclkciecaaQx13
import Derived.Test.YtanepjclkciecaaTextEq
import Derived.Test.YtanepjclkciecaaRefEq
import Derived.Test.YtanepjclkciecaaCinput
namespace Go.Proofs.Ytanepjclkciecaa.CinputEq
open Go.RowKit Go.Proofs.YtanepjclkciecaaW.PrintWords Go.Proofs.Ytanepjclkciecaa.Base Go.Proofs.Ytanepjclkciecaa.Utf Go.Proofs.Ytanepjclkciecaa.UtfEq Go.Proofs.Ytanepjclkciecaa.Cinput Go.Proofs.Ytanepjclkciecaa.TextEq Go.Proofs.Ytanepjclkciecaa.RefEq Go.Proofs.Ytanepjclkciecaa.Q

def mkR (x : Int × Int) : S30 := ⟨x.1, x.2⟩
theorem runes_l0 (n : Nat) : ∀ (t a : List Int) (acc : List S30), t.length ≤ n → Bytes (a ++ t) → (a ++ t).length ≤ 1000000000 → acc.length ≤ a.length →
    Evt (fun k => cinput_Runes.l0 k (a ++ t) acc (a.length : Int)) (acc ++ (runes n t (a.length : Int)).map mkR) := by
  have done : ∀ (a : List Int) (acc : List S30), Evt (fun k => cinput_Runes.l0 k (a ++ []) acc (a.length : Int)) acc := by
    intro a acc
    refine Evt.succ ?_
    simp only [cinput_Runes.l0]
    exact Evt.neg (by simp) (Evt.const _)
  induction n with
  | zero =>
    intro t a acc hn _ _ _
    have : t = [] := List.length_eq_zero_iff.1 (by omega)
    subst this
    rw [runes_nil, List.map_nil, List.append_nil acc]
    exact done a acc
  | succ n ih =>
    intro t a acc hn hb hl hacc
    by_cases ht : t = []
    · subst ht
      rw [runes_nil, List.map_nil, List.append_nil acc]
      exact done a acc
    have hdl := dec_len hb.right ht
    have hnx := next_ev (a ++ t) hb (by omega) (a.length : Int)
    rw [nx_at] at hnx
    have hlen : (a ++ t).length = a.length + t.length := List.length_append
    obtain ⟨m, hm⟩ := Int.eq_ofNat_of_zero_le (show 0 ≤ (dec t).2.1 by omega)
    have hm' : (dec t).2.1 = (m : Int) := hm
    have hmN : (dec t).2.1.toNat = m := by omega
    have hat : ∀ j, a ++ t = (a ++ t.take j) ++ t.drop j := fun j => by rw [List.append_assoc, List.take_append_drop]
    have hac : ∀ j, j ≤ t.length → (a ++ t.take j).length = a.length + j := fun j hj => by rw [List.length_append, List.length_take]; omega
    have rest : ∀ (j : Nat) (x : S30), 0 < j → j ≤ t.length → Evt (fun k => cinput_Runes.l0 k (a ++ t) (acc ++ [x]) ((a.length : Int) + (j : Int))) (acc ++ x :: (runes n (t.drop j) ((a.length : Int) + (j : Int))).map mkR) := by
      intro j x hj0 hj
      have := ih (t.drop j) (a ++ t.take j) (acc ++ [x]) (by rw [List.length_drop]; omega) (by rw [← hat]; exact hb) (by rw [← hat]; exact hl) (by rw [List.length_append, hac j hj, List.length_singleton]; omega)
      rw [← hat, hac j hj, List.append_assoc, show ((a.length + j : Nat) : Int) = (a.length : Int) + (j : Int) by omega] at this
      exact this
    have hhead : rd (a ++ t) ((a.length : Int) + (m : Int)) = (t.drop m).head?.getD 0 := by
      rw [hat m, show (a.length : Int) + (m : Int) = ((a ++ t.take m).length : Int) by rw [hac m (by omega)]; omega]
      rcases hu : t.drop m with _ | ⟨c, u⟩
      · rw [List.append_nil]; exact rd_end _
      · exact rd_append _ _ _
    refine Evt.succ ?_
    simp only [cinput_Runes.l0]
    refine Evt.pos (by omega) (Evt.bind hnx ?_)
    rw [hm', wrap64_in (n := (a.length : Int) + (m : Int)) (by omega) (by omega), wrap64_in (n := (a.length : Int) + (m : Int) + 1) (by omega) (by omega)]
    have lim : acc.length < 8796093022208 := by omega
    by_cases r0 : (dec t).1 = 0
    · rw [runes_one ht (by rw [r0]; exact fun h => absurd h.1 (by decide)), hmN, hm', r0]
      exact Evt.pos rfl (Evt.pos lim (rest m (mkR (65533, (a.length : Int))) (by omega) (by omega)))
    refine Evt.neg r0 ?_
    by_cases r12 : (dec t).1 = 12
    · rw [runes_one ht (by rw [r12]; exact fun h => absurd h.1 (by decide)), hmN, hm', r12]
      exact Evt.pos rfl (Evt.pos lim (rest m (mkR (10, (a.length : Int))) (by omega) (by omega)))
    refine Evt.neg r12 ?_
    by_cases r13 : (dec t).1 = 13
    · refine Evt.pos r13 ?_
      by_cases hh : (t.drop m).head? = some 10
      · have hdl2 : m < t.length := by
          rcases hu : t.drop m with _ | ⟨c, u⟩
          · rw [hu] at hh; simp at hh
          · have := congrArg List.length hu
            rw [List.length_drop, List.length_cons] at this
            omega
        rw [runes_pair ht ⟨r13, by rw [hmN]; exact hh⟩, hmN, hm', List.drop_drop]
        refine Evt.pos (by omega) (Evt.pos (by omega) (Evt.pos (by rw [hhead, hh]; rfl) (Evt.pos lim ?_)))
        have := rest (m + 1) (mkR (10, (a.length : Int))) (by omega) (by omega)
        rw [show (a.length : Int) + ((m + 1 : Nat) : Int) = (a.length : Int) + (m : Int) + 1 by omega] at this
        exact this
      · rw [runes_one ht (by rw [hmN]; exact fun h => hh h.2), hmN, hm', r13]
        have main := rest m (mkR (10, (a.length : Int))) (by omega) (by omega)
        by_cases hin : (a.length : Int) + (m : Int) < ((a ++ t).length : Int)
        · refine Evt.pos hin (Evt.pos (by omega) (Evt.neg ?_ (Evt.pos lim main)))
          rw [hhead]
          intro h
          rcases hu : t.drop m with _ | ⟨c, u⟩
          · rw [hu] at h; simp at h
          · rw [hu] at h hh
            simp at h hh
            exact hh h
        · exact Evt.neg hin (Evt.pos lim main)
    refine Evt.neg r13 ?_
    rw [runes_one ht (fun h => r13 h.1), hmN, hm']
    have := rest m (mkR ((dec t).1, (a.length : Int))) (by omega) (by omega)
    have ecr : cr (dec t).1 = (dec t).1 := by unfold cr; rw [if_neg r0, if_neg r12, if_neg r13]
    rw [ecr]
    exact Evt.pos lim this
theorem runes_ev (l : List Int) (hb : Bytes l) (hl : l.length ≤ 1000000000) : Evt (fun k => cinput_Runes.f k l) ((runes l.length l 0).map mkR) := by
  simp only [cinput_Runes.f]
  exact runes_l0 l.length l [] [] (Nat.le_refl _) hb hl (Nat.le_refl _)
theorem rd_R {L : List (Int × Int)} (i : Nat) (hi : i < L.length) : rd_T30 (L.map mkR) (i : Int) = mkR L[i] := by
  simp [rd_T30, List.getD_eq_getElem?_getD, hi]
theorem text_l (L : List (Int × Int)) (hl : L.length ≤ 1000000000) (d : Nat) : ∀ (i : Nat) (acc : List Int), i + d = L.length → acc.length = i →
    Evt (fun k => cinput_Text.l0 k acc (L.map mkR) ((L.map mkR).length : Int) (i : Int)) (strOfNums (puts (acc ++ (L.drop i).map Prod.fst))) := by
  induction d with
  | zero =>
    intro i acc hi ha
    have h := text_ev acc (by omega)
    refine Evt.succ ?_
    simp only [cinput_Text.l0, List.length_map]
    rw [List.drop_of_length_le (by omega), List.map_nil, List.append_nil]
    exact Evt.neg (by omega) (Evt.bind h (Evt.const _))
  | succ d ih =>
    intro i acc hi ha
    have hlt : i < L.length := by omega
    have hn := ih (i + 1) (acc ++ [L[i].1]) (by omega) (by rw [List.length_append, List.length_singleton, ha])
    rw [List.append_assoc, List.singleton_append, show L[i].1 :: (L.drop (i + 1)).map Prod.fst = (L.drop i).map Prod.fst by rw [List.drop_eq_getElem_cons hlt, List.map_cons], show ((i + 1 : Nat) : Int) = (i : Int) + 1 by omega] at hn
    refine Evt.succ ?_
    simp only [cinput_Text.l0, rd_R i hlt]
    rw [wrap64_in (n := (i : Int) + 1) (by omega) (by omega)]
    have hlm : (L.map mkR).length = L.length := List.length_map _
    refine Evt.pos (by omega) (Evt.pos (by omega) (Evt.pos (by omega) (Evt.pos (by omega) ?_)))
    exact hn
theorem ctext_ev (L : List (Int × Int)) (hl : L.length ≤ 1000000000) : Evt (fun k => cinput_Text.f k (L.map mkR)) (strOfNums (puts (L.map Prod.fst))) := by
  simp only [cinput_Text.f]
  have := text_l L hl L.length 0 [] (by omega) rfl
  simpa using this
end Go.Proofs.Ytanepjclkciecaa.CinputEq
