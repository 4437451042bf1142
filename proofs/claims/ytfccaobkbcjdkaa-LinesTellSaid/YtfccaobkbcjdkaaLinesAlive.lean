/- The example that each law of chapter 2 asks first comes true. -/
import Derived.Test.YtfccaobkbcjdkaaQx2
import Derived.Test.YtfccaobkbcjdkaaLinesEq
namespace Go.Proofs.Ytfccaobkbcjdkaa.LinesEq
open Go.RowKit Go.Proofs.YtfccaobkbcjdkaaW.PrintWords Go.Proofs.Ytfccaobkbcjdkaa.Base Go.Proofs.Ytfccaobkbcjdkaa.Utf Go.Proofs.Ytfccaobkbcjdkaa.UtfEq Go.Proofs.Ytfccaobkbcjdkaa.Lines Go.Proofs.Ytfccaobkbcjdkaa.Q

theorem alive_ev : Evt (fun k => abridgerlaw2_alive.f k) true := by
  have hb1 : Bytes [97, 10, 98] := by intro x hx; simp at hx; omega
  have hb2 : Bytes [97, 10, 98, 99] := by intro x hx; simp at hx; omega
  have h1 := at_in_ev [97, 10, 98] hb1 (by decide) 0 0 rfl (by decide)
  have h2 := at_in_ev [97, 10, 98, 99] hb2 (by decide) 3 3 rfl (by decide)
  have h3 := count_ev [97, 10, 98] hb1 (by decide)
  have e1 : place [97, 10, 98] 0 = (0, 0) := by decide
  have e2 : place [97, 10, 98, 99] 3 = (1, 1) := by decide
  have e3 : (place [97, 10, 98] ([97, 10, 98] : List Int).length).1 + 1 = 2 := by decide
  rw [e1] at h1
  rw [e2] at h2
  rw [e3] at h3
  simp only [abridgerlaw2_alive.f]
  refine Evt.bind h1 (Evt.bind h2 (Evt.pos rfl (Evt.pos rfl (Evt.pos rfl (Evt.pos rfl (Evt.bind h3 ?_))))))
  exact Evt.const _
end Go.Proofs.Ytfccaobkbcjdkaa.LinesEq
