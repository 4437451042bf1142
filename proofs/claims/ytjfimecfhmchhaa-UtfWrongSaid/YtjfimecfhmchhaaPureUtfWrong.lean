/- Which bytes are no UTF-8, from which place on, and what is near them: the law's own table of texts, each of them, whichever whole number asks for one (a number that asks for none is let through). -/
import Derived.Test.YtjfimecfhmchhaaQx12
import Derived.Test.YtjfimecfhmchhaaUtfAlive
namespace Go.Proofs.Ytjfimecfhmchhaa.Pure
open Go.RowKit Go.Proofs.YtjfimecfhmchhaaW.PrintWords Go.Proofs.Ytjfimecfhmchhaa.Base Go.Proofs.Ytjfimecfhmchhaa.Utf Go.Proofs.Ytjfimecfhmchhaa.UtfEq Go.Proofs.Ytjfimecfhmchhaa.Q

theorem wrong_true (which : Int) (ls : List ByteArray) (at_ : List Int) : Evt (fun k => abridgerlaw1_UtfWrong.j0 k which true ls at_ true) true := by
  refine Evt.succ ?_
  simp only [abridgerlaw1_UtfWrong.j0]
  exact Evt.pos (by simp) (Evt.const _)
theorem UtfWrong : abridgerlaw1_UtfWrong.Pure := by
  intro which _
  by_cases h : 0 ≤ which ∧ which < 22
  · have key : ∀ n : Fin 22, abridgerlaw1_UtfWrong.f 30 ((n.val : Nat) : Int) = some true := by decide +kernel
    obtain ⟨n, rfl⟩ := Int.eq_ofNat_of_zero_le h.1
    exact ⟨30, key ⟨n, by omega⟩⟩
  · apply Evt.ex
    simp only [abridgerlaw1_UtfWrong.f, Option.bind_some]
    refine Evt.bind alive_ev (Evt.pos rfl ?_)
    by_cases h1 : which < 0
    · exact Evt.pos h1 (wrong_true _ _ _)
    refine Evt.neg h1 ?_
    rw [decide_eq_true (by simp only [List.length_cons, List.length_nil]; omega)]
    exact wrong_true _ _ _
end Go.Proofs.Ytjfimecfhmchhaa.Pure
