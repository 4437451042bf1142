/- SmapWrong: the law's row, over the small machine. -/
import Derived.Test.YtgbialeahdoelaaRows
import Derived.Test.YtgbialeahdoelaaSMw
import Derived.Test.YtgbialeahdoelaaEngLaw
import Derived.WalkKit
import Derived.ProofKit
import Derived.OpenShut
import Derived.ShutString
import Derived.ChangeOld
import Derived.Below
import Derived.Deep.SlicePairs
namespace Go.Proofs.Ytgbialeahdoelaa.smapWrong
open Go.ChangeShapes Go.WideShapes Go.ChangeAt Go.RowKit Go.Deep Go.Proofs.Ytgbialeahdoelaa.Eng
set_option linter.unusedVariables false
theorem own : ownKnob Try.prog.godebug = none := by kernel_rfl
theorem laidOut : laidOutB Try.prog = true := by kernel_rfl
theorem encT3 (f : Nat) : IsEnc Try.prog f 3 (fun n : Int => (Lit.int .i64 n).wf = true) (fun n => [.v (.int .i64 n)]) := enc_int Try.underlying3
set_option maxRecDepth 100000 in
theorem lifted (os : Os) (started : os.Started) (H : Type) (enc : TypeId × Value → H) :
    ReturnsInHanded {} Try.checked os 5 .any (Rows.smapWrongSpec.pre6 enc Try.prog Try.f5 Rows.smapWrongRow.domain false) (Rows.smapWrongSpec.post enc Try.prog Try.f5 false true false false) := by
  refine returnsInHanded_of_change (C := Try.checked) own started (by kernel_rfl) Try.func5
    (ChangeSpec.witness6 (enc := enc) (C := Try.checked) false ⟨#[], #[.int .i64 0], []⟩ 8 (by kernel_rfl) (by kernel_rfl) (by kernel_rfl) (by kernel_rfl)) ?_
  intro W base args ds gs before hval0 hW hcnd _
  have hval : ∀ (j : Nat) t v, Try.f5.params[j]? = some t → args[j]? = some v → Value.okWide Try.prog W .any base t v := hval0
  have hW' := hW
  obtain ⟨p, q, hA0, hV, rfl, hfz, hnd⟩ := hW
  have hA : DataW.TrodAll enc Try.prog W 0 (fun _ => true) true Try.f5.params.toList args.toList ds p := hA0
  rw [Try.params5] at hA hval
  obtain ⟨v0, vs0, d0, ds0, p0, q0, hargs, rfl, rfl, h0, r0⟩ := trodAll_cons hA
  obtain ⟨rfl, rfl, rfl⟩ := trodAll_nil r0
  obtain rfl : args = #[v0] := by cases args; simp_all
  obtain ⟨rfl, rfl⟩ := trodVars_none hV
  obtain ⟨n0, rfl, -⟩ := okWide_int Try.underlying3 (hval 0 3 v0 rfl rfl)
  have k0 := h0
  have lt0 : ∀ x ∈ p0, x.block < W.heap.size := by obtain ⟨m, hm⟩ := k0; exact DataW.trod_lt m _ _ _ hm
  obtain ⟨x0, ok0, w0⟩ : ∃ x, (fun n : Int => (Lit.int .i64 n).wf = true) x ∧ RdL W [_] ((fun n => [.v (.int .i64 n)]) x) := by
    obtain ⟨fuel, hf⟩ := h0
    obtain ⟨x, e1, e2, _⟩ := encT3 fuel H enc W _ _ _ _ hf
    exact ⟨x, e1, e2⟩
  clear hA0 hval0
  refine (law_calls mixed known24 (by first | rfl | (simp only [AV.ids.idsL, AV.ids, idsL_ds]; rfl)) (SmapWrong_body x0 ok0) rfl fun i u c h1 h2 => ?_).mono fun e W' ⟨he, bel⟩ => ?_
  · match i, h1, h2 with
    | 0, h1, h2 => cases h1; cases h2; exact val_one w0
    | i + 1, h1, h2 => simp at h2
  · subst he
    exact ⟨_, rfl, _, _, _, [], _, [], hW', trodAll_mk1 (shut_bool Try.underlying4 _), (trodAll_cons_mk (Below.trod laidOut (by kernel_rfl) (of_decide_eq_true (by kernel_rfl)) k0 bel lt0) trodAll_mk0), rfl, bel.frame _, fun h => by cases h⟩
theorem over : Rows.smapWrongRow.holds Try.pinned (OpenSpec.ofChange Rows.smapWrongSpec) :=
  OpenClaim.holds_of_wide 5 Try.f5 rfl rfl rfl rfl rfl rfl rfl ⟨rfl, rfl, rfl, rfl, rfl⟩ rfl rfl rfl rfl rfl (by kernel_rfl) Try.func5 (by kernel_rfl)
    (of_decide_eq_true (by kernel_rfl)) (by unfold Func.isWrapper; first | (rw [if_pos (by decide +kernel)]; kernel_rfl) | (rw [if_neg (by decide +kernel)]; exact ⟨rfl, rfl⟩))
    (fun os started H enc _ => lifted os started H enc)
theorem proved : Rows.SmapWrongSaid := over
#print axioms proved
end Go.Proofs.Ytgbialeahdoelaa.smapWrong
namespace Go.Proofs.Ytgbialeahdoelaa
/-- The row, under a short name, for the claim. -/
theorem smapWrong_holds : Rows.SmapWrongSaid := smapWrong.proved
end Go.Proofs.Ytgbialeahdoelaa
