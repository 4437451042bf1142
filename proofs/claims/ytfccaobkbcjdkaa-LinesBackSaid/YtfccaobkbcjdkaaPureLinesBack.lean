/- Where a code point begins is found again: for any list of whole numbers, of which the code points are made, and any place in it (lists of more than 60 numbers, and places that are not in it or behind its last number, are let through). -/
import Derived.Test.YtfccaobkbcjdkaaQx7
import Derived.Test.YtfccaobkbcjdkaaLinesAlive
import Derived.Test.YtfccaobkbcjdkaaLinesBackEq
import Derived.Test.YtfccaobkbcjdkaaRefEq
namespace Go.Proofs.Ytfccaobkbcjdkaa.Pure
open Go.RowKit Go.Proofs.YtfccaobkbcjdkaaW.PrintWords Go.Proofs.Ytfccaobkbcjdkaa.Base Go.Proofs.Ytfccaobkbcjdkaa.Utf Go.Proofs.Ytfccaobkbcjdkaa.UtfEq Go.Proofs.Ytfccaobkbcjdkaa.Lines Go.Proofs.Ytfccaobkbcjdkaa.LinesEq Go.Proofs.Ytfccaobkbcjdkaa.RefEq Go.Proofs.Ytfccaobkbcjdkaa.Q

theorem back_fin (rs : List Int) (hr : ∀ r ∈ rs, isCp r) (hl : rs.length ≤ 60) (i : Nat) (off : Int) (ho : off = ((encAll (rs.take i)).length : Int)) :
    Evt (fun k => (lines_At.f k (encAll rs) off).bind fun bt => (lines_Back.f k (encAll rs) bt.1 bt.2).bind fun bt2 => if bt2.2 = true then some (bt2.1 == off) else some false) true := by
  subst ho
  have e : rs = rs.take i ++ rs.drop i := (List.take_append_drop i rs).symm
  have hlen := encAll_length rs
  have hb := encAll_bytes hr
  have hle : (encAll (rs.take i)).length ≤ (encAll rs).length := by
    conv => rhs; rw [e]
    rw [encAll_append, List.length_append]
    omega
  have h1 := at_in_ev (encAll rs) hb (by omega) ((encAll (rs.take i)).length : Int) (encAll (rs.take i)).length rfl hle
  have h2 := back_ev (encAll rs) hb (by omega) (place (encAll rs) (encAll (rs.take i)).length)
  have h3 := back_begin (rs.take i) (rs.drop i) (fun r h => hr r (List.mem_of_mem_take h))
  rw [← e] at h3
  rw [h3] at h2
  refine Evt.bind h1 (Evt.bind h2 (Evt.pos rfl (Evt.of (by simp))))
theorem back_l (l : List Int) (hl : l.length ≤ 60) (p : Nat) (hp : p ≤ l.length) (d : Nat) : ∀ (rs : List Int) (i : Nat) (off : Int), i + d = l.length → rs.length = i → (∀ r ∈ rs, isCp r) → (p < i → off = ((encAll (rs.take p)).length : Int)) →
    Evt (fun k => abridgerlaw2_LinesBack.l0 k l (p : Int) (encAll rs) off (i : Int)) true := by
  induction d with
  | zero =>
    intro rs i off hi hrs hr ho
    refine Evt.succ ?_
    simp only [abridgerlaw2_LinesBack.l0]
    refine Evt.neg (by omega) ?_
    by_cases h : (p : Int) = (l.length : Int)
    · refine Evt.pos h (back_fin rs hr (by omega) rs.length _ (by rw [List.take_length]))
    · exact Evt.neg h (back_fin rs hr (by omega) p off (ho (by omega)))
  | succ d ih =>
    intro rs i off hi hrs hr ho
    have hlen := encAll_length rs
    have hput := ref_put_ev (encAll rs) (bits .and .i64 (rd l (i : Int)) 131071) (by omega)
    have hnext : ∀ off', (p < i + 1 → off' = ((encAll ((rs ++ [fix (bits .and .i64 (rd l (i : Int)) 131071)]).take p)).length : Int)) → Evt (fun k => abridgerlaw2_LinesBack.l0 k l (p : Int) (encAll rs ++ put (bits .and .i64 (rd l (i : Int)) 131071)) off' ((i : Int) + 1)) true := by
      intro off' ho'
      have := ih (rs ++ [fix (bits .and .i64 (rd l (i : Int)) 131071)]) (i + 1) off' (by omega) (by rw [List.length_append, List.length_singleton, hrs]) (by
        intro y hy
        rcases List.mem_append.1 hy with h | h
        · exact hr y h
        · rw [List.mem_singleton] at h
          rw [h]
          exact fix_cp _) ho'
      rw [encAll_append, encAll_cons, encAll_nil, List.append_nil, show ((i + 1 : Nat) : Int) = (i : Int) + 1 by omega] at this
      exact this
    refine Evt.succ ?_
    simp only [abridgerlaw2_LinesBack.l0]
    rw [wrap64_in (n := (i : Int) + 1) (by omega) (by omega)]
    refine Evt.pos (by omega) ?_
    by_cases h : (i : Int) = (p : Int)
    · refine Evt.pos h (Evt.pos (by omega) (Evt.bind hput (hnext _ (fun _ => ?_))))
      rw [List.take_append_of_le_length (by omega), List.take_of_length_le (by omega)]
    · refine Evt.neg h (Evt.pos (by omega) (Evt.bind hput (hnext _ (fun h2 => ?_))))
      rw [List.take_append_of_le_length (by omega)]
      exact ho (by omega)

theorem back_true (l : List Int) (p : Int) (live : Bool) (hl : live = true) : Evt (fun k => abridgerlaw2_LinesBack.j0 k l p live true) true := by
  subst hl
  refine Evt.succ ?_
  simp only [abridgerlaw2_LinesBack.j0, if_true]
  exact Evt.const _
theorem LinesBack : abridgerlaw2_LinesBack.Pure := by
  intro l p _ _ _ _
  apply Evt.ex
  simp only [abridgerlaw2_LinesBack.f]
  refine Evt.bind alive_ev (Evt.pos rfl ?_)
  by_cases h1 : (l.length : Int) > 60
  · exact Evt.pos h1 (back_true _ _ _ rfl)
  refine Evt.neg h1 ?_
  by_cases h2 : p < 0
  · exact Evt.pos h2 (back_true _ _ _ rfl)
  refine Evt.neg h2 ?_
  by_cases h3 : p > (l.length : Int)
  · rw [decide_eq_true h3]
    exact back_true _ _ _ rfl
  rw [decide_eq_false h3]
  obtain ⟨p, rfl⟩ := Int.eq_ofNat_of_zero_le (show 0 ≤ p by omega)
  refine Evt.succ ?_
  simp only [abridgerlaw2_LinesBack.j0, Bool.false_eq_true, if_false]
  exact back_l l (by omega) p (by omega) l.length [] 0 0 (by omega) rfl (fun _ h => by simp at h) (fun h => by omega)
end Go.Proofs.Ytfccaobkbcjdkaa.Pure
