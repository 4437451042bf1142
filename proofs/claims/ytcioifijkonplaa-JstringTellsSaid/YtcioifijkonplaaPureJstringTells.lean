/- Which units may be, and how any are written: for any texts of units (longer ones than 200 units are let through). -/
import Derived.Test.YtcioifijkonplaaQx11
import Derived.Test.YtcioifijkonplaaJstrAlive
import Derived.Test.YtcioifijkonplaaJstrRefEq
namespace Go.Proofs.Ytcioifijkonplaa.Pure
open Go.RowKit Go.Proofs.YtcioifijkonplaaW.PrintWords Go.Proofs.Ytcioifijkonplaa.Base Go.Proofs.Ytcioifijkonplaa.Utf Go.Proofs.Ytcioifijkonplaa.UtfEq Go.Proofs.Ytcioifijkonplaa.TextEq Go.Proofs.Ytcioifijkonplaa.Jstr Go.Proofs.Ytcioifijkonplaa.JstrEq Go.Proofs.Ytcioifijkonplaa.Q

theorem JstringTells : abridgerlaw8_JstringTells.Pure := by
  intro l _ _ _
  apply Evt.ex
  simp only [abridgerlaw8_JstringTells.f]
  refine Evt.bind alive_ev (Evt.pos rfl (Evt.succ ?_))
  simp only [abridgerlaw8_JstringTells.j0, List.nil_append, List.length_nil, Nat.zero_add]
  by_cases h1 : (l.length : Int) > 200
  · exact Evt.pos (decide_eq_true h1) (Evt.const _)
  refine Evt.neg (by simp; omega) (Evt.bind (right_ev l (by omega)) (Evt.bind (ref_right_ev l (by omega)) (Evt.pos (by simp) (Evt.pos (by omega) (Evt.bind (Spell_ev l (by omega)) (Evt.bind (ref_spell_ev l (by omega)) (Evt.of (by simp))))))))
end Go.Proofs.Ytcioifijkonplaa.Pure
