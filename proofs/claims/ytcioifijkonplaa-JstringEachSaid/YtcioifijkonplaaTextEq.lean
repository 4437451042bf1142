/- utf.Text, as it is printed in plain Lean: what is written for each code point, one behind the other. -/
import Derived.Test.YtcioifijkonplaaQx5
import Derived.Test.YtcioifijkonplaaUtfEq
namespace Go.Proofs.Ytcioifijkonplaa.TextEq
open Go.RowKit Go.Proofs.YtcioifijkonplaaW.PrintWords Go.Proofs.Ytcioifijkonplaa.Base Go.Proofs.Ytcioifijkonplaa.Utf Go.Proofs.Ytcioifijkonplaa.UtfEq Go.Proofs.Ytcioifijkonplaa.Q

def puts (rs : List Int) : List Int := rs.flatMap put
theorem puts_cons (r : Int) (rs : List Int) : puts (r :: rs) = put r ++ puts rs := rfl
theorem puts_append (a b : List Int) : puts (a ++ b) = puts a ++ puts b := by simp [puts]
theorem puts_bytes (rs : List Int) : Bytes (puts rs) := by
  induction rs with
  | nil => exact Bytes.nil
  | cons r rs ih => rw [puts_cons]; exact (put_bytes r).append ih
theorem puts_length (rs : List Int) : (puts rs).length ≤ 4 * rs.length := by
  induction rs with
  | nil => simp [puts]
  | cons r rs ih =>
    rw [puts_cons, List.length_append, List.length_cons]
    have := put_length r
    omega
theorem puts_enc {rs : List Int} (h : ∀ r ∈ rs, isCp r) : puts rs = encAll rs := by
  induction rs with
  | nil => rfl
  | cons r rs ih =>
    rw [puts_cons, encAll_cons, ih (fun x hx => h x (by simp [hx]))]
    unfold put
    rw [fix_of (h r (by simp))]
theorem text_l0 (rs : List Int) (hl : rs.length ≤ 1000000000) (d : Nat) : ∀ (i : Nat) (acc : List Int), i + d = rs.length → acc.length ≤ 4 * i →
    Evt (fun k => utf_Text.l0 k acc rs (rs.length : Int) (i : Int)) (strOfNums (acc ++ puts (rs.drop i))) := by
  induction d with
  | zero =>
    intro i acc hi _
    refine Evt.succ ?_
    simp only [utf_Text.l0]
    refine Evt.neg (by omega) ?_
    rw [List.drop_of_length_le (by omega)]
    simp only [puts, List.flatMap_nil, List.append_nil]
    exact Evt.const _
  | succ d ih =>
    intro i acc hi ha
    have hlt : i < rs.length := by omega
    have hr : rd rs (i : Int) = rs[i] := by simp [rd, List.getD_eq_getElem?_getD, hlt]
    have hd : rs.drop i = rs[i] :: rs.drop (i + 1) := List.drop_eq_getElem_cons hlt
    have hp := put_length rs[i]
    have hn := ih (i + 1) (acc ++ put rs[i]) (by omega) (by rw [List.length_append]; omega)
    rw [List.append_assoc, ← puts_cons, ← hd, show ((i + 1 : Nat) : Int) = (i : Int) + 1 by omega] at hn
    have hput := put_ev [] rs[i] (by decide)
    rw [List.nil_append] at hput
    have way : Evt (fun k => (utf_Put.f k ([] : List Int) rs[i]).bind fun t => if acc.length + t.length < 140737488355328 then utf_Text.l0 k (acc ++ t) rs (rs.length : Int) ((i : Int) + 1) else none) (strOfNums (acc ++ puts (rs.drop i))) :=
      Evt.bind hput (Evt.pos (by omega) hn)
    refine Evt.succ ?_
    simp only [utf_Text.l0, hr, right_eq, Option.bind_some]
    rw [wrap64_in (n := (i : Int) + 1) (by omega) (by omega)]
    refine Evt.pos (by omega) (Evt.pos (by omega) (Evt.pos (by omega) ?_))
    by_cases hcp : isCp rs[i]
    · rw [decide_eq_true hcp]
      refine Evt.pos rfl ?_
      by_cases h128 : rs[i] < 128
      · refine Evt.pos h128 (Evt.pos (by omega) ?_)
        rw [bytes1 hcp h128]
        unfold put at hn
        rw [fix_of hcp] at hn
        exact hn
      · exact Evt.neg h128 way
    · rw [decide_eq_false hcp]
      exact Evt.neg (by decide) way
theorem text_ev (rs : List Int) (hl : rs.length ≤ 1000000000) : Evt (fun k => utf_Text.f k rs) (strOfNums (puts rs)) := by
  simp only [utf_Text.f]
  have := text_l0 rs hl rs.length 0 [] (by omega) (by simp)
  simpa using this
end Go.Proofs.Ytcioifijkonplaa.TextEq
