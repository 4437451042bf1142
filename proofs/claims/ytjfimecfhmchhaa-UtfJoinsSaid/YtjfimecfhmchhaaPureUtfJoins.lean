/- Texts are UTF-8 together if each is, and else from the first place where one is not, if the first is: for any two texts of bytes (those of more than 200 bytes are let through). -/
import Derived.Test.YtjfimecfhmchhaaQx7
import Derived.Test.YtjfimecfhmchhaaUtfAlive
namespace Go.Proofs.Ytjfimecfhmchhaa.Pure
open Go.RowKit Go.Proofs.YtjfimecfhmchhaaW.PrintWords Go.Proofs.Ytjfimecfhmchhaa.Base Go.Proofs.Ytjfimecfhmchhaa.Utf Go.Proofs.Ytjfimecfhmchhaa.UtfEq Go.Proofs.Ytjfimecfhmchhaa.Q

theorem joins_true (a b : List Int) (live : Bool) (hl : live = true) : Evt (fun k => abridgerlaw1_UtfJoins.j0 k a b live true) true := by
  subst hl
  refine Evt.succ ?_
  simp only [abridgerlaw1_UtfJoins.j0, if_true]
  exact Evt.const _
theorem joins_j0 (a b : List Int) (ha : Bytes a) (hb : Bytes b) (la : a.length ≤ 200) (lb : b.length ≤ 200) (live : Bool) : Evt (fun k => abridgerlaw1_UtfJoins.j0 k a b live false) true := by
  obtain ⟨ra, ta, rfl, hra, hta⟩ := parts a ha
  obtain ⟨rb, tb, rfl, hrb, htb⟩ := parts b hb
  obtain ⟨rc, tc, hc, hrc, htc⟩ := parts (ta ++ (encAll rb ++ tb)) (ha.right.append hb)
  have va := valid_ev hra hta ha.right (by omega)
  have vb := valid_ev hrb htb hb.right (by omega)
  have hbc : Bytes (ta ++ (encAll rb ++ tb)) := ha.right.append hb
  have hlc : ((encAll (ra ++ rc) ++ tc).length : Int) ≤ 400 := by
    rw [encAll_append, List.append_assoc, ← hc]
    simp only [List.length_append] at la lb ⊢
    omega
  have vc := valid_ev (rs := ra ++ rc) (t := tc) (fun x hx => (List.mem_append.1 hx).elim (hra x) (hrc x)) htc (by rw [hc] at hbc; exact hbc.right) (by omega)
  have e : encAll ra ++ ta ++ (encAll rb ++ tb) = encAll (ra ++ rc) ++ tc := by rw [encAll_append, List.append_assoc, List.append_assoc, ← hc]
  rw [← e] at vc
  refine Evt.succ ?_
  simp only [abridgerlaw1_UtfJoins.j0, Bool.false_eq_true, if_false, List.length_nil, Nat.zero_add, List.nil_append]
  refine Evt.bind va (Evt.bind vb ?_)
  refine Evt.pos (by omega) ?_
  simp only [Option.bind_some]
  refine Evt.pos (by omega) (Evt.bind vc ?_)
  by_cases h : ta = []
  · subst h
    simp only [decide_true, if_true]
    rw [List.nil_append] at hc
    obtain ⟨rfl, rfl⟩ := parts_unique hrb hrc htb htc hc
    simp only [List.append_nil] at la va ⊢
    refine Evt.pos (by simp) (Evt.pos ?_ ?_)
    · simp only [List.length_append] at lb
      rw [encAll_append, wrap64_in (by omega) (by omega), List.length_append]
      omega
    · exact Evt.of (by simp)
  · rw [decide_eq_false h]
    simp only [Bool.false_eq_true, if_false]
    refine Evt.of ?_
    rw [encAll_append, List.length_append, decide_eq_true (by omega)]

theorem UtfJoins : abridgerlaw1_UtfJoins.Pure := by
  intro a b _ _ wa _ _ wb
  apply Evt.ex
  simp only [abridgerlaw1_UtfJoins.f]
  refine Evt.bind alive_ev (Evt.pos rfl ?_)
  by_cases h1 : (a.length : Int) > 200
  · exact Evt.pos h1 (joins_true _ _ _ rfl)
  refine Evt.neg h1 ?_
  by_cases h2 : (b.length : Int) > 200
  · rw [decide_eq_true h2]
    exact joins_true _ _ _ rfl
  · rw [decide_eq_false h2]
    exact joins_j0 a b (Bytes.of_wf wa) (Bytes.of_wf wb) (by omega) (by omega) true

end Go.Proofs.Ytjfimecfhmchhaa.Pure
