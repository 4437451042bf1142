/- SmapJson: the law's row, over the small machine. -/
import Derived.Test.YtgbialeahdoelaaBSmapJsono
import Derived.Test.YtgbialeahdoelaaRows
import Derived.WalkKit
import Derived.ProofKit
import Derived.OpenShut
import Derived.ShutString
import Derived.ChangeOld
import Derived.Below
import Derived.Deep.SlicePairs
namespace Go.Proofs.Ytgbialeahdoelaa.smapJson
open Go.ChangeShapes Go.WideShapes Go.ChangeAt Go.RowKit Go.Deep Go.Proofs.Ytgbialeahdoelaa.Eng
set_option linter.unusedVariables false
theorem own : ownKnob Try.prog.godebug = none := by kernel_rfl
theorem laidOut : laidOutB Try.prog = true := by kernel_rfl
theorem encT22 (f : Nat) : IsEnc Try.prog f 22 (fun l : List (Sg) => l.length ≤ maxLen ∧ ∀ x ∈ l, (fun p : Sg => (((Lit.int .i64 p.a).wf = true ∧ (Lit.int .i64 p.b).wf = true) ∧ (Lit.int .i64 p.c).wf = true) ∧ (Lit.int .i64 p.d).wf = true) x) (fun l => [.sl 4 (l.map fun p => sgD p)]) := enc_slice Try.underlying22 (by kernel_rfl) (by decide) (fun _ => rfl) (fun f _ => encT47 f)
theorem encT9 (f : Nat) : IsEnc Try.prog f 9 (fun s : ByteArray => s.size ≤ maxLen) (fun s => [.v (.string s)]) := enc_string Try.underlying9
set_option maxRecDepth 100000 in
theorem lifted (os : Os) (started : os.Started) (H : Type) (enc : TypeId × Value → H) :
    ReturnsInHanded {} Try.checked os 4 .any (Rows.smapJsonSpec.pre6 enc Try.prog Try.f4 Rows.smapJsonRow.domain false) (Rows.smapJsonSpec.post enc Try.prog Try.f4 false true false false) := by
  refine returnsInHanded_of_change (C := Try.checked) own started (by kernel_rfl) Try.func4
    (ChangeSpec.witness6 (enc := enc) (C := Try.checked) false ⟨#[], #[.slice none 0 0, .string ByteArray.empty], []⟩ 8 (by kernel_rfl) (by kernel_rfl) (by kernel_rfl) (by kernel_rfl)) ?_
  intro W base args ds gs before hval0 hW hcnd _
  have hval : ∀ (j : Nat) t v, Try.f4.params[j]? = some t → args[j]? = some v → Value.okWide Try.prog W .any base t v := hval0
  have hW' := hW
  obtain ⟨p, q, hA0, hV, rfl, hfz, hnd⟩ := hW
  have hA : DataW.TrodAll enc Try.prog W 0 (fun _ => true) true Try.f4.params.toList args.toList ds p := hA0
  rw [Try.params4] at hA hval
  obtain ⟨v0, vs0, d0, ds0, p0, q0, hargs, rfl, rfl, h0, r0⟩ := trodAll_cons hA
  obtain ⟨v1, vs1, d1, ds1, p1, q1, rfl, rfl, rfl, h1, r1⟩ := trodAll_cons r0
  obtain ⟨rfl, rfl, rfl⟩ := trodAll_nil r1
  obtain rfl : args = #[v0, v1] := by cases args; simp_all
  obtain ⟨rfl, rfl⟩ := trodVars_none hV
  obtain ⟨a0, len0, cap0, rfl⟩ := okWide_slice Try.underlying22 (hval 0 22 v0 rfl rfl)
  have k0 := h0
  have lt0 : ∀ x ∈ p0, x.block < W.heap.size := by obtain ⟨m, hm⟩ := k0; exact DataW.trod_lt m _ _ _ hm
  obtain ⟨x0, ok0, w0⟩ : ∃ x, (fun l : List (Sg) => l.length ≤ maxLen ∧ ∀ x ∈ l, (fun p : Sg => (((Lit.int .i64 p.a).wf = true ∧ (Lit.int .i64 p.b).wf = true) ∧ (Lit.int .i64 p.c).wf = true) ∧ (Lit.int .i64 p.d).wf = true) x) x ∧ RdL W [_] ((fun l => [.sl 4 (l.map fun p => sgD p)]) x) := by
    obtain ⟨fuel, hf⟩ := h0
    obtain ⟨x, e1, e2, _⟩ := encT22 fuel H enc W _ _ _ _ hf
    exact ⟨x, e1, e2⟩
  obtain ⟨s1, rfl⟩ := okWide_string Try.underlying9 (hval 1 9 v1 rfl rfl)
  have k1 := h1
  have lt1 : ∀ x ∈ p1, x.block < W.heap.size := by obtain ⟨m, hm⟩ := k1; exact DataW.trod_lt m _ _ _ hm
  obtain ⟨x1, ok1, w1⟩ : ∃ x, (fun s : ByteArray => s.size ≤ maxLen) x ∧ RdL W [_] ((fun s => [.v (.string s)]) x) := by
    obtain ⟨fuel, hf⟩ := h1
    obtain ⟨x, e1, e2, _⟩ := encT9 fuel H enc W _ _ _ _ hf
    exact ⟨x, e1, e2⟩
  clear hA0 hval0
  refine (law_calls mixed known24j (by first | rfl | (simp only [AV.ids.idsL, AV.ids, idsL_ds]; rfl)) (SmapJson_body x0 x1 ok0 ok1) rfl fun i u c h1 h2 => ?_).mono fun e W' ⟨he, bel⟩ => ?_
  · match i, h1, h2 with
    | 0, h1, h2 => cases h1; cases h2; exact val_one w0
    | 1, h1, h2 => cases h1; cases h2; exact val_one w1
    | i + 2, h1, h2 => simp at h2
  · subst he
    exact ⟨_, rfl, _, _, _, [], _, [], hW', trodAll_mk1 (shut_bool Try.underlying4 _), (trodAll_cons_mk (Below.trod laidOut (by kernel_rfl) (of_decide_eq_true (by kernel_rfl)) k0 bel lt0) (trodAll_cons_mk (Below.trod laidOut (by kernel_rfl) (of_decide_eq_true (by kernel_rfl)) k1 bel lt1) trodAll_mk0)), rfl, bel.frame _, fun h => by cases h⟩
theorem over : Rows.smapJsonRow.holds Try.pinned (OpenSpec.ofChange Rows.smapJsonSpec) :=
  OpenClaim.holds_of_wide 4 Try.f4 rfl rfl rfl rfl rfl rfl rfl ⟨rfl, rfl, rfl, rfl, rfl⟩ rfl rfl rfl rfl rfl (by kernel_rfl) Try.func4 (by kernel_rfl)
    (of_decide_eq_true (by kernel_rfl)) (by unfold Func.isWrapper; first | (rw [if_pos (by decide +kernel)]; kernel_rfl) | (rw [if_neg (by decide +kernel)]; exact ⟨rfl, rfl⟩))
    (fun os started H enc _ => lifted os started H enc)
theorem proved : Rows.SmapJsonSaid := over
#print axioms proved
end Go.Proofs.Ytgbialeahdoelaa.smapJson
namespace Go.Proofs.Ytgbialeahdoelaa
/-- The row, under a short name, for the claim. -/
theorem smapJson_holds : Rows.SmapJsonSaid := smapJson.proved
end Go.Proofs.Ytgbialeahdoelaa
