/- The example that each law of chapter 1 asks first comes true. -/
import Derived.Test.YtjfimecfhmchhaaQx4
import Derived.Test.YtjfimecfhmchhaaUtfEq
namespace Go.Proofs.Ytjfimecfhmchhaa.UtfEq
open Go.RowKit Go.Proofs.YtjfimecfhmchhaaW.PrintWords Go.Proofs.Ytjfimecfhmchhaa.Base Go.Proofs.Ytjfimecfhmchhaa.Utf Go.Proofs.Ytjfimecfhmchhaa.Q

theorem alive_ev : Evt (fun k => abridgerlaw1_alive.f k) true := by
  have h1 := next_ev [195, 169] (by intro x hx; simp at hx; omega) (by decide) 0
  have e1 : nx [195, 169] 0 = (233, 2, true) := by decide
  rw [e1] at h1
  have h2 := put_ev [] 233 (by decide)
  have e2 : Lib.bytesOf ([] ++ put 233) = [195, 169] := by decide
  simp only [abridgerlaw1_alive.f, units_eq, Option.bind_some]
  refine Evt.bind h1 ?_
  refine Evt.pos (by decide) (Evt.pos rfl (Evt.pos rfl (Evt.pos rfl (Evt.bind h2 ?_))))
  rw [str_toList, e2]
  exact Evt.const _
end Go.Proofs.Ytjfimecfhmchhaa.UtfEq
