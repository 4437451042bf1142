/- Places never go back: who comes later in a text of bytes is on the same line, no further left, or on a later one: for any text and any two places in order (texts of more than 200 bytes are let through). -/
import Derived.Test.YtfccaobkbcjdkaaQx4
import Derived.Test.YtfccaobkbcjdkaaLinesAlive
namespace Go.Proofs.Ytfccaobkbcjdkaa.Pure
open Go.RowKit Go.Proofs.YtfccaobkbcjdkaaW.PrintWords Go.Proofs.Ytfccaobkbcjdkaa.Base Go.Proofs.Ytfccaobkbcjdkaa.Utf Go.Proofs.Ytfccaobkbcjdkaa.UtfEq Go.Proofs.Ytfccaobkbcjdkaa.Lines Go.Proofs.Ytfccaobkbcjdkaa.LinesEq Go.Proofs.Ytfccaobkbcjdkaa.Q

theorem order_true (l : List Int) (i j : Int) (live : Bool) (hl : live = true) : Evt (fun k => abridgerlaw2_LinesOrder.j0 k l i j live true) true := by
  subst hl
  refine Evt.succ ?_
  simp only [abridgerlaw2_LinesOrder.j0, if_true]
  exact Evt.const _
theorem LinesOrder : abridgerlaw2_LinesOrder.Pure := by
  intro l i j _ _ wl _ _
  apply Evt.ex
  simp only [abridgerlaw2_LinesOrder.f]
  refine Evt.bind alive_ev (Evt.pos rfl ?_)
  by_cases h1 : (l.length : Int) > 200
  · exact Evt.pos h1 (order_true _ _ _ _ rfl)
  refine Evt.neg h1 ?_
  by_cases h2 : i < 0
  · exact Evt.pos h2 (order_true _ _ _ _ rfl)
  refine Evt.neg h2 ?_
  by_cases h3 : i > j
  · exact Evt.pos h3 (order_true _ _ _ _ rfl)
  refine Evt.neg h3 ?_
  by_cases h4 : j > (l.length : Int)
  · rw [decide_eq_true h4]
    exact order_true _ _ _ _ rfl
  rw [decide_eq_false h4]
  have hb := Bytes.of_wf wl
  refine Evt.succ ?_
  simp only [abridgerlaw2_LinesOrder.j0, Bool.false_eq_true, if_false]
  refine Evt.bind (at_in_ev l hb (by omega) i i.toNat (by omega) (by omega)) (Evt.bind (at_in_ev l hb (by omega) j j.toNat (by omega) (by omega)) ?_)
  have hm := at_mono l.length l i.toNat j.toNat (0, 0) hb (by omega)
  change le (place l i.toNat) (place l j.toNat) at hm
  unfold le at hm
  by_cases h5 : (place l j.toNat).1 > (place l i.toNat).1
  · exact Evt.pos h5 (Evt.const _)
  refine Evt.neg h5 (Evt.pos (by omega) (Evt.of ?_))
  rw [decide_eq_true (by omega)]
end Go.Proofs.Ytfccaobkbcjdkaa.Pure
