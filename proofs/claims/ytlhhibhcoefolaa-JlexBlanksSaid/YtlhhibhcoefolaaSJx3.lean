/- Numbers of JSON, on the small machine (jlex). -/
import Derived.Test.YtlhhibhcoefolaaSJx2
namespace Go.Proofs.Ytlhhibhcoefolaa.Eng
open Go Go.Proofs.Ytlhhibhcoefolaa.Base
set_option maxRecDepth 100000
set_option linter.unusedSimpArgs false
set_option linter.unusedVariables false
/-- Does such a byte stand there. -/
def oneV (p : Int → Bool) (l : List Int) (a : Nat) : Bool := decide (a < l.length) && p (l.getD a 0)
def F_onej : List AV → Option (Prop × AV)
  | [.d (.sl 1 xs), .d (.v (.int .i64 a)), .fn f caps] => match isP f caps with
    | some p => some (xs = (xs.map numOf).map (iD .u8) ∧ xs.length ≤ 1000000000 ∧ 0 ≤ a, vBool (oneV p (xs.map numOf) a.toNat))
    | none => none
  | _ => none
theorem onej_calm : ∀ args sc res, F_onej args = some (sc, res) → sc → Calm Try.prog 34 args res := by
  intro args sc res h hs
  unfold F_onej at h
  split at h
  case h_2 => cases h
  rename_i xs a f caps
  split at h
  case h_2 => cases h
  rename_i p hp
  cases h
  obtain ⟨h1, h2, h3⟩ := hs
  obtain ⟨k, rfl⟩ := Int.eq_ofNat_of_zero_le h3
  obtain ⟨q1, q2, q3⟩ := isP_ok hp
  have hb := one_body (Γ := G_is) q2 q3 (xs.map numOf) k (by simpa using h2)
  rw [bytesD, ← h1] at hb
  exact known_is.calm mixed (by simp only [AV.ids.idsL, AV.ids, vInt, q2, List.append_nil, List.nil_append]) rfl hb
def F_runj : List AV → Option (Prop × AV)
  | [.d (.sl 1 xs), .d (.v (.int .i64 a)), .fn f caps] => match isP f caps with
    | some p => some (xs = (xs.map numOf).map (iD .u8) ∧ xs.length ≤ 1000000000 ∧ 0 ≤ a ∧ a ≤ 1000000000, vInt .i64 (runN p (xs.map numOf) a.toNat))
    | none => none
  | _ => none
theorem runj_calm : ∀ args sc res, F_runj args = some (sc, res) → sc → Calm Try.prog 12 args res := by
  intro args sc res h hs
  unfold F_runj at h
  split at h
  case h_2 => cases h
  rename_i xs a f caps
  split at h
  case h_2 => cases h
  rename_i p hp
  cases h
  obtain ⟨h1, h2, h3, h4⟩ := hs
  obtain ⟨k, rfl⟩ := Int.eq_ofNat_of_zero_le h3
  obtain ⟨q1, q2, q3⟩ := isP_ok hp
  have hb := run_body (Γ := G_is) q1 q2 q3 (xs.map numOf) k (by simpa using h2) (by omega)
  rw [bytesD, ← h1] at hb
  exact known_is.calm mixed (by simp only [AV.ids.idsL, AV.ids, vInt, q2, List.append_nil, List.nil_append]) rfl hb
end Go.Proofs.Ytlhhibhcoefolaa.Eng
