/- Of any bytes where any place is, which place is there, and how many lines there are: for any text of bytes, any offset, any line and any column (texts of more than 200 bytes are let through). -/
import Derived.Test.YtfccaobkbcjdkaaQx6
import Derived.Test.YtfccaobkbcjdkaaLinesAlive
import Derived.Test.YtfccaobkbcjdkaaLinesBackEq
import Derived.Test.YtfccaobkbcjdkaaRefLinesEq
namespace Go.Proofs.Ytfccaobkbcjdkaa.Pure
open Go.RowKit Go.Proofs.YtfccaobkbcjdkaaW.PrintWords Go.Proofs.Ytfccaobkbcjdkaa.Base Go.Proofs.Ytfccaobkbcjdkaa.Utf Go.Proofs.Ytfccaobkbcjdkaa.UtfEq Go.Proofs.Ytfccaobkbcjdkaa.Lines Go.Proofs.Ytfccaobkbcjdkaa.LinesEq Go.Proofs.Ytfccaobkbcjdkaa.RefEq Go.Proofs.Ytfccaobkbcjdkaa.RefLinesEq Go.Proofs.Ytfccaobkbcjdkaa.Q

theorem LinesTell : abridgerlaw2_LinesTell.Pure := by
  intro l off line col _ _ wl _ _ _
  have hb := Bytes.of_wf wl
  apply Evt.ex
  simp only [abridgerlaw2_LinesTell.f]
  refine Evt.bind alive_ev (Evt.pos rfl (Evt.succ ?_))
  by_cases h1 : (l.length : Int) > 200
  · rw [decide_eq_true h1]
    simp only [abridgerlaw2_LinesTell.j0]
    exact Evt.pos (by simp) (Evt.const _)
  · rw [decide_eq_false h1]
    have hl : l.length ≤ 10000000000 := by omega
    simp only [abridgerlaw2_LinesTell.j0, List.nil_append]
    refine Evt.neg (by decide) (Evt.pos (by simp only [List.length_nil]; omega) ?_)
    refine Evt.bind (at_ev l hb hl off) (Evt.bind (ref_at_ev l hb hl off) (Evt.bind (back_ev l hb hl (line, col)) (Evt.bind (ref_back_ev l hb hl (line, col)) ?_)))
    refine Evt.pos (by simp) (Evt.pos (by simp) (Evt.pos (by simp) (Evt.pos (by simp) (Evt.bind (count_ev l hb hl) (Evt.bind (ref_count_ev l hb hl) (Evt.of (by simp)))))))
end Go.Proofs.Ytfccaobkbcjdkaa.Pure
