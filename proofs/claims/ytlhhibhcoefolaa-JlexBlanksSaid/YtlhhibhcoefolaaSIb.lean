/- strings.IndexByte, on the small machine. -/
import Derived.Test.YtlhhibhcoefolaaSBy
import Derived.Test.YtlhhibhcoefolaaIb
namespace Go.Proofs.Ytlhhibhcoefolaa.Eng
open Go Go.Proofs.Ytlhhibhcoefolaa.Base
set_option linter.unusedVariables false
def F_ib : List AV → Option (Prop × AV)
  | [.d (.v (.string s)), .d (.v (.int .u8 c))] => some (True, vInt .i64 (Lib.indexByte s.data.toList c.toNat.toUInt8))
  | _ => none
theorem ib_calm : ∀ args sc res, F_ib args = some (sc, res) → sc → Calm Try.prog 21 args res := by
  intro args sc res h hs
  unfold F_ib at h
  split at h <;> cases h
  rename_i s c
  refine ⟨⟨_, Try.func21, by kernel_rfl, by kernel_rfl⟩, rfl, fun C m w hp vals I hsz hv => ?_⟩
  obtain ⟨u, v, rfl⟩ : ∃ u v, vals = #[u, v] := by
    have h1 : vals.size = 2 := hsz
    obtain ⟨l⟩ := vals
    match l, h1 with
    | [u, v], _ => exact ⟨u, v, rfl⟩
  have hu := hv 0 u _ rfl rfl
  have hw := hv 1 v _ rfl rfl
  cases hu with
  | d hu =>
  cases hu
  cases hw with
  | d hw =>
  cases hw
  refine (Try.strings_IndexByte s c w).mono fun e w' ⟨e1, e2⟩ => ?_
  subst e2
  have b := Go.RowKit.Below.refl w'.heap.size w'
  exact ⟨_, e1, b.os, b.tape, b.output, b.size, b.block, .d (.v rfl)⟩
end Go.Proofs.Ytlhhibhcoefolaa.Eng
