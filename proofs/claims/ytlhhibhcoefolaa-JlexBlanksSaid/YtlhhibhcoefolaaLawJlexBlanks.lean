/- JlexBlanks: the law's row, over the small machine. -/
import Derived.Test.YtlhhibhcoefolaaRows
import Derived.Test.YtlhhibhcoefolaaSJz1
import Derived.Test.YtlhhibhcoefolaaEngLaw
import Derived.WalkKit
import Derived.ProofKit
import Derived.OpenShut
import Derived.ShutString
import Derived.ChangeOld
import Derived.Below
import Derived.Deep.SlicePairs
namespace Go.Proofs.Ytlhhibhcoefolaa.jlexBlanks
open Go.ChangeShapes Go.WideShapes Go.ChangeAt Go.RowKit Go.Deep Go.Proofs.Ytlhhibhcoefolaa.Eng
set_option linter.unusedVariables false
theorem own : ownKnob Try.prog.godebug = none := by kernel_rfl
theorem laidOut : laidOutB Try.prog = true := by kernel_rfl
theorem encT5 (f : Nat) : IsEnc Try.prog f 5 (fun n : Int => (Lit.int .u8 n).wf = true) (fun n => [.v (.int .u8 n)]) := enc_int Try.underlying5
theorem encT22 (f : Nat) : IsEnc Try.prog f 22 (fun l : List (Int) => l.length ≤ maxLen ∧ ∀ x ∈ l, (fun n : Int => (Lit.int .u8 n).wf = true) x) (fun l => [.sl 1 (l.map fun n => [.v (.int .u8 n)])]) := enc_slice Try.underlying22 (by kernel_rfl) (by decide) (fun _ => rfl) (fun f _ => encT5 f)
theorem encT3 (f : Nat) : IsEnc Try.prog f 3 (fun n : Int => (Lit.int .i64 n).wf = true) (fun n => [.v (.int .i64 n)]) := enc_int Try.underlying3
theorem encT33 (f : Nat) : IsEnc Try.prog f 33 (fun l : List (Int) => l.length ≤ maxLen ∧ ∀ x ∈ l, (fun n : Int => (Lit.int .i64 n).wf = true) x) (fun l => [.sl 1 (l.map fun n => [.v (.int .i64 n)])]) := enc_slice Try.underlying33 (by kernel_rfl) (by decide) (fun _ => rfl) (fun f _ => encT3 f)
set_option maxRecDepth 100000 in
theorem lifted (os : Os) (started : os.Started) (H : Type) (enc : TypeId × Value → H) :
    ReturnsInHanded {} Try.checked os 5 .any (Rows.jlexBlanksSpec.pre6 enc Try.prog Try.f5 Rows.jlexBlanksRow.domain false) (Rows.jlexBlanksSpec.post enc Try.prog Try.f5 false true false false) := by
  refine returnsInHanded_of_change (C := Try.checked) own started (by kernel_rfl) Try.func5
    (ChangeSpec.witness6 (enc := enc) (C := Try.checked) false ⟨#[], #[.slice none 0 0, .slice none 0 0], []⟩ 8 (by kernel_rfl) (by kernel_rfl) (by kernel_rfl) (by kernel_rfl)) ?_
  intro W base args ds gs before hval0 hW hcnd _
  have hval : ∀ (j : Nat) t v, Try.f5.params[j]? = some t → args[j]? = some v → Value.okWide Try.prog W .any base t v := hval0
  have hW' := hW
  obtain ⟨p, q, hA0, hV, rfl, hfz, hnd⟩ := hW
  have hA : DataW.TrodAll enc Try.prog W 0 (fun _ => true) true Try.f5.params.toList args.toList ds p := hA0
  rw [Try.params5] at hA hval
  obtain ⟨v0, vs0, d0, ds0, p0, q0, hargs, rfl, rfl, h0, r0⟩ := trodAll_cons hA
  obtain ⟨v1, vs1, d1, ds1, p1, q1, rfl, rfl, rfl, h1, r1⟩ := trodAll_cons r0
  obtain ⟨rfl, rfl, rfl⟩ := trodAll_nil r1
  obtain rfl : args = #[v0, v1] := by cases args; simp_all
  obtain ⟨rfl, rfl⟩ := trodVars_none hV
  obtain ⟨a0, len0, cap0, rfl⟩ := okWide_slice Try.underlying22 (hval 0 22 v0 rfl rfl)
  have k0 := h0
  have lt0 : ∀ x ∈ p0, x.block < W.heap.size := by obtain ⟨m, hm⟩ := k0; exact DataW.trod_lt m _ _ _ hm
  obtain ⟨x0, ok0, w0⟩ : ∃ x, (fun l : List (Int) => l.length ≤ maxLen ∧ ∀ x ∈ l, (fun n : Int => (Lit.int .u8 n).wf = true) x) x ∧ RdL W [_] ((fun l => [.sl 1 (l.map fun n => [.v (.int .u8 n)])]) x) := by
    obtain ⟨fuel, hf⟩ := h0
    obtain ⟨x, e1, e2, _⟩ := encT22 fuel H enc W _ _ _ _ hf
    exact ⟨x, e1, e2⟩
  obtain ⟨a1, len1, cap1, rfl⟩ := okWide_slice Try.underlying33 (hval 1 33 v1 rfl rfl)
  have k1 := h1
  have lt1 : ∀ x ∈ p1, x.block < W.heap.size := by obtain ⟨m, hm⟩ := k1; exact DataW.trod_lt m _ _ _ hm
  obtain ⟨x1, ok1, w1⟩ : ∃ x, (fun l : List (Int) => l.length ≤ maxLen ∧ ∀ x ∈ l, (fun n : Int => (Lit.int .i64 n).wf = true) x) x ∧ RdL W [_] ((fun l => [.sl 1 (l.map fun n => [.v (.int .i64 n)])]) x) := by
    obtain ⟨fuel, hf⟩ := h1
    obtain ⟨x, e1, e2, _⟩ := encT33 fuel H enc W _ _ _ _ hf
    exact ⟨x, e1, e2⟩
  clear hA0 hval0
  refine (law_calls mixed known_G_bl6 (by first | rfl | (simp only [AV.ids.idsL, AV.ids, idsL_ds]; rfl)) (JlexBlanks_body x0 x1 ok0 ok1) rfl fun i u c h1 h2 => ?_).mono fun e W' ⟨he, bel⟩ => ?_
  · match i, h1, h2 with
    | 0, h1, h2 => cases h1; cases h2; exact val_one w0
    | 1, h1, h2 => cases h1; cases h2; exact val_one w1
    | i + 2, h1, h2 => simp at h2
  · subst he
    exact ⟨_, rfl, _, _, _, [], _, [], hW', trodAll_mk1 (shut_bool Try.underlying4 _), (trodAll_cons_mk (Below.trod laidOut (by kernel_rfl) (of_decide_eq_true (by kernel_rfl)) k0 bel lt0) (trodAll_cons_mk (Below.trod laidOut (by kernel_rfl) (of_decide_eq_true (by kernel_rfl)) k1 bel lt1) trodAll_mk0)), rfl, bel.frame _, fun h => by cases h⟩
theorem over : Rows.jlexBlanksRow.holds Try.pinned (OpenSpec.ofChange Rows.jlexBlanksSpec) :=
  OpenClaim.holds_of_wide 5 Try.f5 rfl rfl rfl rfl rfl rfl rfl ⟨rfl, rfl, rfl, rfl, rfl⟩ rfl rfl rfl rfl rfl (by kernel_rfl) Try.func5 (by kernel_rfl)
    (of_decide_eq_true (by kernel_rfl)) (by unfold Func.isWrapper; first | (rw [if_pos (by decide +kernel)]; kernel_rfl) | (rw [if_neg (by decide +kernel)]; exact ⟨rfl, rfl⟩))
    (fun os started H enc _ => lifted os started H enc)
theorem proved : Rows.JlexBlanksSaid := over
#print axioms proved
end Go.Proofs.Ytlhhibhcoefolaa.jlexBlanks
namespace Go.Proofs.Ytlhhibhcoefolaa
/-- The row, under a short name, for the claim. -/
theorem jlexBlanks_holds : Rows.JlexBlanksSaid := jlexBlanks.proved
end Go.Proofs.Ytlhhibhcoefolaa
