/- PiecesPart: the law's row, over the small machine. -/
import Derived.Test.YtngjpmeenoohmaaRows
import Derived.Test.YtngjpmeenoohmaaSPcl
import Derived.Test.YtngjpmeenoohmaaEngLaw
import Derived.WalkKit
import Derived.ProofKit
import Derived.OpenShut
import Derived.ShutString
import Derived.ChangeOld
import Derived.Below
import Derived.Deep.SlicePairs
import Derived.Test.YtngjpmeenoohmaaEngUpto
namespace Go.Proofs.Ytngjpmeenoohmaa.piecesPartUpto
open Go.ChangeShapes Go.WideShapes Go.ChangeAt Go.RowKit Go.Deep Go.Proofs.Ytngjpmeenoohmaa.Eng
set_option linter.unusedVariables false
theorem own : ownKnob Try.prog.godebug = none := by kernel_rfl
theorem laidOut : laidOutB Try.prog = true := by kernel_rfl
theorem encT22 (f : Nat) : IsEnc Try.prog f 22 (fun l : List (Pc) => l.length ≤ maxLen ∧ ∀ x ∈ l, (fun p : Pc => p.1.size ≤ maxLen ∧ (Lit.int .i64 p.2).wf = true) x) (fun l => [.sl 2 (l.map fun p => pcD p)]) := enc_slice Try.underlying22 (by kernel_rfl) (by decide) (fun _ => rfl) (fun f _ => encT33 f)
theorem encT5 (f : Nat) : IsEnc Try.prog f 5 (fun n : Int => (Lit.int .u8 n).wf = true) (fun n => [.v (.int .u8 n)]) := enc_int Try.underlying5
theorem encT23 (f : Nat) : IsEnc Try.prog f 23 (fun l : List (Int) => l.length ≤ maxLen ∧ ∀ x ∈ l, (fun n : Int => (Lit.int .u8 n).wf = true) x) (fun l => [.sl 1 (l.map fun n => [.v (.int .u8 n)])]) := enc_slice Try.underlying23 (by kernel_rfl) (by decide) (fun _ => rfl) (fun f _ => encT5 f)
theorem encT9 (f : Nat) : IsEnc Try.prog f 9 (fun s : ByteArray => s.size ≤ maxLen) (fun s => [.v (.string s)]) := enc_string Try.underlying9
set_option maxRecDepth 100000 in
theorem contract (H : Type) (enc : TypeId × Value → H) (W : World) (base : Nat) (args : Array Value) (ds gs : List (DataW H)) (before : List MemPlace)
    (hval0 : ∀ (j : Nat) t v, Try.f5.params[j]? = some t → args[j]? = some v → Value.okWide Try.prog W .any base t v)
    (hW : DataW.Whole enc Try.prog Try.f5.params.toList Rows.piecesPartSpec.vars false W args.toList ds gs before) (hk : Rows.uptoSmall H (ds ++ gs) = true) :
    Calls Try.prog 5 args W fun e W' => ∃ v, e = .returned v ∧ Rows.piecesPartSpec.post enc Try.prog Try.f5 false true false false W args v W' := by
  have hval : ∀ (j : Nat) t v, Try.f5.params[j]? = some t → args[j]? = some v → Value.okWide Try.prog W .any base t v := hval0
  have hW' := hW
  obtain ⟨p, q, hA0, hV, rfl, hfz, hnd⟩ := hW
  have hA : DataW.TrodAll enc Try.prog W 0 (fun _ => true) true Try.f5.params.toList args.toList ds p := hA0
  rw [Try.params5] at hA hval
  obtain ⟨v0, vs0, d0, ds0, p0, q0, hargs, rfl, rfl, h0, r0⟩ := trodAll_cons hA
  obtain ⟨v1, vs1, d1, ds1, p1, q1, rfl, rfl, rfl, h1, r1⟩ := trodAll_cons r0
  obtain ⟨v2, vs2, d2, ds2, p2, q2, rfl, rfl, rfl, h2, r2⟩ := trodAll_cons r1
  obtain ⟨rfl, rfl, rfl⟩ := trodAll_nil r2
  obtain rfl : args = #[v0, v1, v2] := by cases args; simp_all
  obtain ⟨rfl, rfl⟩ := trodVars_none hV
  obtain ⟨a0, len0, cap0, rfl⟩ := okWide_slice Try.underlying22 (hval 0 22 v0 rfl rfl)
  have k0 := h0
  have lt0 : ∀ x ∈ p0, x.block < W.heap.size := by obtain ⟨m, hm⟩ := k0; exact DataW.trod_lt m _ _ _ hm
  obtain ⟨x0, ok0, w0, b0⟩ : ∃ x, (fun l : List (Pc) => l.length ≤ maxLen ∧ ∀ x ∈ l, (fun p : Pc => p.1.size ≤ maxLen ∧ (Lit.int .i64 p.2).wf = true) x) x ∧ RdL W [_] ((fun l => [.sl 2 (l.map fun p => pcD p)]) x) ∧ cellsB ((fun l => [.sl 2 (l.map fun p => pcD p)]) x) ≤ dwB d0 := by
    obtain ⟨fuel, hf⟩ := h0
    exact encT22 fuel H enc W _ _ _ _ hf
  obtain ⟨a1, len1, cap1, rfl⟩ := okWide_slice Try.underlying23 (hval 1 23 v1 rfl rfl)
  have k1 := h1
  have lt1 : ∀ x ∈ p1, x.block < W.heap.size := by obtain ⟨m, hm⟩ := k1; exact DataW.trod_lt m _ _ _ hm
  obtain ⟨x1, ok1, w1, b1⟩ : ∃ x, (fun l : List (Int) => l.length ≤ maxLen ∧ ∀ x ∈ l, (fun n : Int => (Lit.int .u8 n).wf = true) x) x ∧ RdL W [_] ((fun l => [.sl 1 (l.map fun n => [.v (.int .u8 n)])]) x) ∧ cellsB ((fun l => [.sl 1 (l.map fun n => [.v (.int .u8 n)])]) x) ≤ dwB d1 := by
    obtain ⟨fuel, hf⟩ := h1
    exact encT23 fuel H enc W _ _ _ _ hf
  obtain ⟨s2, rfl⟩ := okWide_string Try.underlying9 (hval 2 9 v2 rfl rfl)
  have k2 := h2
  have lt2 : ∀ x ∈ p2, x.block < W.heap.size := by obtain ⟨m, hm⟩ := k2; exact DataW.trod_lt m _ _ _ hm
  obtain ⟨x2, ok2, w2, b2⟩ : ∃ x, (fun s : ByteArray => s.size ≤ maxLen) x ∧ RdL W [_] ((fun s => [.v (.string s)]) x) ∧ cellsB ((fun s => [.v (.string s)]) x) ≤ dwB d2 := by
    obtain ⟨fuel, hf⟩ := h2
    exact encT9 fuel H enc W _ _ _ _ hf
  clear hA0 hval0
  have hB : cellsB ((fun l => [.sl 2 (l.map fun p => pcD p)]) x0) + cellsB ((fun l => [.sl 1 (l.map fun n => [.v (.int .u8 n)])]) x1) + cellsB ((fun s => [.v (.string s)]) x2) ≤ 1048576 := by
    have hb : Rows.uptoBulkAll _ ≤ 1048576 := of_decide_eq_true hk
    have t0 := dwB_le d0
    have t1 := dwB_le d1
    have t2 := dwB_le d2
    simp only [List.cons_append, List.nil_append, List.append_nil, Rows.uptoBulkAll] at hb
    omega
  refine (law_calls mixed known23 (by first | rfl | (simp only [AV.ids.idsL, AV.ids, idsL_ds]; rfl)) (PiecesPart_body x0 x1 x2 ok0 ok1 ok2 hB) rfl fun i u c h1 h2 => ?_).mono fun e W' ⟨he, bel⟩ => ?_
  · match i, h1, h2 with
    | 0, h1, h2 => cases h1; cases h2; exact val_one w0
    | 1, h1, h2 => cases h1; cases h2; exact val_one w1
    | 2, h1, h2 => cases h1; cases h2; exact val_one w2
    | i + 3, h1, h2 => simp at h2
  · subst he
    exact ⟨_, rfl, _, _, _, [], _, [], hW', trodAll_mk1 (shut_bool Try.underlying4 _), (trodAll_cons_mk (Below.trod laidOut (by kernel_rfl) (of_decide_eq_true (by kernel_rfl)) k0 bel lt0) (trodAll_cons_mk (Below.trod laidOut (by kernel_rfl) (of_decide_eq_true (by kernel_rfl)) k1 bel lt1) (trodAll_cons_mk (Below.trod laidOut (by kernel_rfl) (of_decide_eq_true (by kernel_rfl)) k2 bel lt2) trodAll_mk0))), rfl, bel.frame _, fun h => by cases h⟩
set_option maxRecDepth 100000 in
theorem lifted (os : Os) (started : os.Started) (H : Type) (enc : TypeId × Value → H) (F : Stop.Interp) :
    ReturnsInHanded {} Try.checked os 5 .any ((Rows.OpenSpec.upto Rows.piecesPartSpec).pre6 enc Try.prog Try.f5 Rows.piecesPartUptoRow.domain false) (((Rows.OpenSpec.upto Rows.piecesPartSpec).at F).post enc Try.prog Try.f5 false true false false) := by
  refine returnsInHanded_of_cond (C := Try.checked) (s := Rows.OpenSpec.upto Rows.piecesPartSpec) (k := Rows.uptoSmall) rfl own started (by kernel_rfl) Try.func5
    (OpenSpec.witness (enc := enc) (C := Try.checked) (s := Rows.OpenSpec.upto Rows.piecesPartSpec) (k := Rows.uptoSmall) rfl false ⟨#[], #[.slice none 0 0, .slice none 0 0, .string ByteArray.empty], []⟩ 8 (by kernel_rfl) (by kernel_rfl) (by kernel_rfl)
      (x := ([.nil, .nil, .lit (.string [])], [], [])) (by kernel_rfl) rfl (by kernel_rfl)) ?_
  intro W base args ds gs before hval hW _ hk _
  exact contract H enc W base args ds gs before hval hW hk
theorem proved : Rows.PiecesPartUptoSaid :=
  OpenClaim.holds_of_cond 5 Try.f5 rfl rfl rfl rfl rfl rfl rfl ⟨rfl, rfl, rfl, rfl, rfl⟩ rfl rfl rfl rfl rfl (by kernel_rfl) Try.func5 (by kernel_rfl)
    (of_decide_eq_true (by kernel_rfl)) (by unfold Func.isWrapper; first | (rw [if_pos (by decide +kernel)]; kernel_rfl) | (rw [if_neg (by decide +kernel)]; exact ⟨rfl, rfl⟩))
    (fun os started H enc _ F => lifted os started H enc F)
#print axioms proved
end Go.Proofs.Ytngjpmeenoohmaa.piecesPartUpto
namespace Go.Proofs.Ytngjpmeenoohmaa
/-- The row, under a short name, for the claim. -/
theorem piecesPartUpto_holds : Rows.PiecesPartUptoSaid := piecesPartUpto.proved
end Go.Proofs.Ytngjpmeenoohmaa
