/- How single units are written: for every number of the list; no bound on anything. -/
import Derived.Test.YtcioifijkonplaaQx22
import Derived.Test.YtcioifijkonplaaJstrAlive
namespace Go.Proofs.Ytcioifijkonplaa.Pure
open Go.RowKit Go.Proofs.YtcioifijkonplaaW.PrintWords Go.Proofs.Ytcioifijkonplaa.Base Go.Proofs.Ytcioifijkonplaa.Utf Go.Proofs.Ytcioifijkonplaa.UtfEq Go.Proofs.Ytcioifijkonplaa.TextEq Go.Proofs.Ytcioifijkonplaa.Jstr Go.Proofs.Ytcioifijkonplaa.JstrEq Go.Proofs.Ytcioifijkonplaa.Q

/-- The units of the law, and how they are written. -/
def eachUnit : List Int := [0, 8, 9, 10, 12, 13, 31, 32, 34, 47, 92, 127, 233, 8232, 55296, 56320, 65535]
def eachText : List ByteArray := [(⟨#[92, 117, 48, 48, 48, 48]⟩ : ByteArray), (⟨#[92, 98]⟩ : ByteArray), (⟨#[92, 116]⟩ : ByteArray), (⟨#[92, 110]⟩ : ByteArray), (⟨#[92, 102]⟩ : ByteArray), (⟨#[92, 114]⟩ : ByteArray), (⟨#[92, 117, 48, 48, 49, 102]⟩ : ByteArray), (⟨#[32]⟩ : ByteArray), (⟨#[92, 34]⟩ : ByteArray), (⟨#[47]⟩ : ByteArray), (⟨#[92, 92]⟩ : ByteArray), (⟨#[127]⟩ : ByteArray), (⟨#[195, 169]⟩ : ByteArray), (⟨#[226, 128, 168]⟩ : ByteArray), (⟨#[92, 117, 100, 56, 48, 48]⟩ : ByteArray), (⟨#[92, 117, 100, 99, 48, 48]⟩ : ByteArray), (⟨#[239, 191, 191]⟩ : ByteArray)]
theorem each_ok : ∀ i : Fin 17, right [rd eachUnit (i.val : Int)] ∧ 1 + (rdOf ByteArray.empty eachText (i.val : Int)).size ≤ 9223372036854775807 ∧ ((⟨#[34]⟩ : ByteArray) ++ (rdOf ByteArray.empty eachText (i.val : Int))).size + 1 ≤ 9223372036854775807 ∧ (((strOfNums (spelled [rd eachUnit (i.val : Int)])).toList == (((⟨#[34]⟩ : ByteArray) ++ (rdOf ByteArray.empty eachText (i.val : Int))) ++ (⟨#[34]⟩ : ByteArray)).toList)) = true := by decide +kernel

theorem JstringEach : abridgerlaw8_JstringEach.Pure := by
  intro a _
  apply Evt.ex
  simp only [abridgerlaw8_JstringEach.f]
  refine Evt.bind alive_ev ?_
  simp only [Option.bind_some, if_true]
  by_cases h0 : a < 0
  · exact Evt.pos h0 (Evt.const _)
  by_cases h1 : a ≥ (eachUnit.length : Int)
  · exact Evt.neg h0 (Evt.pos h1 (Evt.const _))
  have h2 : a < 17 := by simpa [eachUnit] using h1
  obtain ⟨n, rfl⟩ : ∃ n : Nat, a = (n : Int) := ⟨a.toNat, by omega⟩
  have hk := each_ok ⟨n, by omega⟩
  have hs := Spell_ev [rd eachUnit (n : Int)] (by simp)
  rw [if_pos hk.1] at hs
  refine Evt.neg h0 (Evt.neg h1 (Evt.pos (by omega) (Evt.pos (by simpa [eachUnit] using h2) (Evt.bind hs (Evt.pos (by simpa [eachText] using h2) (Evt.pos hk.2.1 (Evt.pos hk.2.2.1 (Evt.of (congrArg some hk.2.2.2)))))))))
end Go.Proofs.Ytcioifijkonplaa.Pure
