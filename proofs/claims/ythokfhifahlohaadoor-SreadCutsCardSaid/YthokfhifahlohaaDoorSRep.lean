/- strings.Repeat, on the small machine. -/
import Derived.Test.YthokfhifahlohaaDoorRep
import Derived.Test.YthokfhifahlohaaDoorSBy
namespace Go.Proofs.YthokfhifahlohaaDoor.Eng
open Go Go.Proofs.YthokfhifahlohaaDoor.Base
set_option linter.unusedVariables false
def F_rep : List AV → Option (Prop × AV)
  | [.d (.v (.string s)), .d (.v (.int .i64 c))] => some (0 ≤ c ∧ c ≤ 140737488355328 ∧ s.size * c.toNat ≤ 140737488355328, vStr ⟨(Lib.repeatL s.data.toList c.toNat).toArray⟩)
  | _ => none
theorem rep_calm : ∀ args sc res, F_rep args = some (sc, res) → sc → Calm Tryd.prog 20 args res := by
  intro args sc res h hs
  unfold F_rep at h
  split at h <;> cases h
  rename_i s c
  obtain ⟨h1, h2, h3⟩ := hs
  refine ⟨⟨_, Tryd.func20, by kernel_rfl, by kernel_rfl⟩, rfl, fun C m w hp vals I hsz hv => ?_⟩
  obtain ⟨u, v, rfl⟩ : ∃ u v, vals = #[u, v] := by
    have h1 : vals.size = 2 := hsz
    obtain ⟨l⟩ := vals
    match l, h1 with
    | [u, v], _ => exact ⟨u, v, rfl⟩
  have hu := hv 0 u _ rfl rfl
  have hw := hv 1 v _ rfl rfl
  cases hu with
  | d hu =>
  cases hu
  cases hw with
  | d hw =>
  cases hw
  obtain ⟨c, rfl⟩ := Int.eq_ofNat_of_zero_le h1
  refine (Tryd.rep s c w (by omega) (by simpa using h3)).mono fun e w' ⟨e1, b⟩ => ?_
  exact ⟨_, e1, b.os, b.tape, b.output, b.size, b.block, .d (.v rfl)⟩
end Go.Proofs.YthokfhifahlohaaDoor.Eng
