/- The examples of the law: they hold. -/
import Derived.Test.YtcioifijkonplaaQx7
import Derived.Test.YtcioifijkonplaaJstrEq
namespace Go.Proofs.Ytcioifijkonplaa.JstrEq
open Go.RowKit Go.Proofs.YtcioifijkonplaaW.PrintWords Go.Proofs.Ytcioifijkonplaa.Base Go.Proofs.Ytcioifijkonplaa.Utf Go.Proofs.Ytcioifijkonplaa.UtfEq Go.Proofs.Ytcioifijkonplaa.TextEq Go.Proofs.Ytcioifijkonplaa.Jstr Go.Proofs.Ytcioifijkonplaa.Q

theorem alive_ev : Evt (fun k => abridgerlaw8_alive.f k) true := by
  have h1 := Spell_ev [] (by simp)
  have h2 := Spell_ev [34, 97] (by simp)
  have h3 := right_ev [65535] (by simp)
  have h4 := right_ev [65536] (by simp)
  have e1 : ((if right [] then strOfNums (spelled []) else ⟨#[]⟩) : ByteArray) = ⟨#[34, 34]⟩ := by
    rw [if_pos right_nil]
    rfl
  have e2 : ((if right [34, 97] then strOfNums (spelled [34, 97]) else ⟨#[]⟩) : ByteArray) = ⟨#[34, 92, 34, 97, 34]⟩ := by
    rw [if_pos (by decide)]
    kernel_rfl
  rw [e1] at h1
  rw [e2] at h2
  rw [decide_eq_true (by decide)] at h3
  rw [decide_eq_false (by decide)] at h4
  simp only [abridgerlaw8_alive.f]
  refine Evt.bind h1 (Evt.pos (by decide +kernel) (Evt.bind h2 (Evt.pos (by decide +kernel) (Evt.bind h3 (Evt.pos rfl (Evt.bind h4 (Evt.of rfl)))))))
end Go.Proofs.Ytcioifijkonplaa.JstrEq
