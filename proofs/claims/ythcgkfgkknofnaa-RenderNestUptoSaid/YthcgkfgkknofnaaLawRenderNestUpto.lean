/- RenderNest: the law's row, over the small machine. -/
import Derived.Test.YthcgkfgkknofnaaRows
import Derived.Test.YthcgkfgkknofnaaSRl3
import Derived.Test.YthcgkfgkknofnaaEngLaw
import Derived.WalkKit
import Derived.ProofKit
import Derived.OpenShut
import Derived.ShutString
import Derived.ChangeOld
import Derived.Below
import Derived.Deep.SlicePairs
import Derived.Test.YthcgkfgkknofnaaEngUpto
namespace Go.Proofs.Ythcgkfgkknofnaa.renderNestUpto
open Go.ChangeShapes Go.WideShapes Go.ChangeAt Go.RowKit Go.Deep Go.Proofs.Ythcgkfgkknofnaa.Eng
set_option linter.unusedVariables false
theorem own : ownKnob Try.prog.godebug = none := by kernel_rfl
theorem laidOut : laidOutB Try.prog = true := by kernel_rfl
theorem encT3 (f : Nat) : IsEnc Try.prog f 3 (fun n : Int => (Lit.int .i64 n).wf = true) (fun n => [.v (.int .i64 n)]) := enc_int Try.underlying3
set_option maxRecDepth 100000 in
theorem contract (H : Type) (enc : TypeId × Value → H) (W : World) (base : Nat) (args : Array Value) (ds gs : List (DataW H)) (before : List MemPlace)
    (hval0 : ∀ (j : Nat) t v, Try.f9.params[j]? = some t → args[j]? = some v → Value.okWide Try.prog W .any base t v)
    (hW : DataW.Whole enc Try.prog Try.f9.params.toList Rows.renderNestSpec.vars false W args.toList ds gs before) (hk : Rows.uptoSmall H (ds ++ gs) = true) :
    Calls Try.prog 9 args W fun e W' => ∃ v, e = .returned v ∧ Rows.renderNestSpec.post enc Try.prog Try.f9 false true false false W args v W' := by
  have hval : ∀ (j : Nat) t v, Try.f9.params[j]? = some t → args[j]? = some v → Value.okWide Try.prog W .any base t v := hval0
  have hW' := hW
  obtain ⟨p, q, hA0, hV, rfl, hfz, hnd⟩ := hW
  have hA : DataW.TrodAll enc Try.prog W 0 (fun _ => true) true Try.f9.params.toList args.toList ds p := hA0
  rw [Try.params9] at hA hval
  obtain ⟨v0, vs0, d0, ds0, p0, q0, hargs, rfl, rfl, h0, r0⟩ := trodAll_cons hA
  obtain ⟨v1, vs1, d1, ds1, p1, q1, rfl, rfl, rfl, h1, r1⟩ := trodAll_cons r0
  obtain ⟨rfl, rfl, rfl⟩ := trodAll_nil r1
  obtain rfl : args = #[v0, v1] := by cases args; simp_all
  obtain ⟨rfl, rfl⟩ := trodVars_none hV
  obtain ⟨cs0, rfl, -⟩ := okWide_struct Try.underlying24 (hval 0 24 v0 rfl rfl)
  have k0 := h0
  have lt0 : ∀ x ∈ p0, x.block < W.heap.size := by obtain ⟨m, hm⟩ := k0; exact DataW.trod_lt m _ _ _ hm
  obtain ⟨x0, ok0, w0, b0⟩ : ∃ x, (fun D : Doc => okD D) x ∧ RdL W (Value.agg cs0).cells.toList ((fun D => docD D) x) ∧ cellsB ((fun D => docD D) x) ≤ dwB d0 := by
    obtain ⟨fuel, hf⟩ := h0
    exact encT24 fuel H enc W _ _ _ _ hf
  obtain ⟨n1, rfl, -⟩ := okWide_int Try.underlying3 (hval 1 3 v1 rfl rfl)
  have k1 := h1
  have lt1 : ∀ x ∈ p1, x.block < W.heap.size := by obtain ⟨m, hm⟩ := k1; exact DataW.trod_lt m _ _ _ hm
  obtain ⟨x1, ok1, w1, b1⟩ : ∃ x, (fun n : Int => (Lit.int .i64 n).wf = true) x ∧ RdL W [_] ((fun n => [.v (.int .i64 n)]) x) ∧ cellsB ((fun n => [.v (.int .i64 n)]) x) ≤ dwB d1 := by
    obtain ⟨fuel, hf⟩ := h1
    exact encT3 fuel H enc W _ _ _ _ hf
  clear hA0 hval0
  have hB : cellsB ((fun D => docD D) x0) + cellsB ((fun n => [.v (.int .i64 n)]) x1) ≤ 1048576 := by
    have hb : Rows.uptoBulkAll _ ≤ 1048576 := of_decide_eq_true hk
    have t0 := dwB_le d0
    have t1 := dwB_le d1
    simp only [List.cons_append, List.nil_append, List.append_nil, Rows.uptoBulkAll] at hb
    omega
  refine (law_calls mixed known11d (by first | rfl | (simp only [AV.ids.idsL, AV.ids, idsL_ds]; rfl)) (RenderNest_body x0 x1 ok0 ok1 hB) rfl fun i u c h1 h2 => ?_).mono fun e W' ⟨he, bel⟩ => ?_
  · match i, h1, h2 with
    | 0, h1, h2 => cases h1; cases h2; exact val_agg w0
    | 1, h1, h2 => cases h1; cases h2; exact val_one w1
    | i + 2, h1, h2 => simp at h2
  · subst he
    exact ⟨_, rfl, _, _, _, [], _, [], hW', trodAll_mk1 (shut_bool Try.underlying4 _), (trodAll_cons_mk (Below.trod laidOut (by kernel_rfl) (of_decide_eq_true (by kernel_rfl)) k0 bel lt0) (trodAll_cons_mk (Below.trod laidOut (by kernel_rfl) (of_decide_eq_true (by kernel_rfl)) k1 bel lt1) trodAll_mk0)), rfl, bel.frame _, fun h => by cases h⟩
set_option maxRecDepth 100000 in
theorem lifted (os : Os) (started : os.Started) (H : Type) (enc : TypeId × Value → H) (F : Stop.Interp) :
    ReturnsInHanded {} Try.checked os 9 .any ((Rows.OpenSpec.upto Rows.renderNestSpec).pre6 enc Try.prog Try.f9 Rows.renderNestUptoRow.domain false) (((Rows.OpenSpec.upto Rows.renderNestSpec).at F).post enc Try.prog Try.f9 false true false false) := by
  refine returnsInHanded_of_cond (C := Try.checked) (s := Rows.OpenSpec.upto Rows.renderNestSpec) (k := Rows.uptoSmall) rfl own started (by kernel_rfl) Try.func9
    (OpenSpec.witness (enc := enc) (C := Try.checked) (s := Rows.OpenSpec.upto Rows.renderNestSpec) (k := Rows.uptoSmall) rfl false ⟨#[], #[.agg #[.int .i64 0, .int .i64 0, .string ByteArray.empty, .slice none 0 0], .int .i64 0], []⟩ 8 (by kernel_rfl) (by kernel_rfl) (by kernel_rfl)
      (x := ([.agg [.lit (.int .i64 0), .lit (.int .i64 0), .lit (.string []), .nil], .lit (.int .i64 0)], [], [])) (by kernel_rfl) rfl (by kernel_rfl)) ?_
  intro W base args ds gs before hval hW _ hk _
  exact contract H enc W base args ds gs before hval hW hk
theorem proved : Rows.RenderNestUptoSaid :=
  OpenClaim.holds_of_cond 9 Try.f9 rfl rfl rfl rfl rfl rfl rfl ⟨rfl, rfl, rfl, rfl, rfl⟩ rfl rfl rfl rfl rfl (by kernel_rfl) Try.func9 (by kernel_rfl)
    (of_decide_eq_true (by kernel_rfl)) (by unfold Func.isWrapper; first | (rw [if_pos (by decide +kernel)]; kernel_rfl) | (rw [if_neg (by decide +kernel)]; exact ⟨rfl, rfl⟩))
    (fun os started H enc _ F => lifted os started H enc F)
#print axioms proved
end Go.Proofs.Ythcgkfgkknofnaa.renderNestUpto
namespace Go.Proofs.Ythcgkfgkknofnaa
/-- The row, under a short name, for the claim. -/
theorem renderNestUpto_holds : Rows.RenderNestUptoSaid := renderNestUpto.proved
end Go.Proofs.Ythcgkfgkknofnaa
