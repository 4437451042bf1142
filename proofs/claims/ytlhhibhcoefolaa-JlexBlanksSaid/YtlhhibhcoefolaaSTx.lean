/- Texts as lists of bytes. -/
import Derived.Test.YtlhhibhcoefolaaSBy
namespace Go.Proofs.Ytlhhibhcoefolaa.Eng
open Go Go.Proofs.Ytlhhibhcoefolaa.Base
set_option linter.unusedSimpArgs false
set_option linter.unusedVariables false
theorem str_sB (s : ByteArray) : strOfNums (sB s) = s := by
  apply ByteArray.ext
  apply Array.ext'
  simp [strOfNums, sB, Function.comp_def]
theorem sB_ext (s : ByteArray) (a b : Nat) : s.extract a b = strOfNums (((sB s).drop a).take (b - a)) := by
  apply ByteArray.ext
  apply Array.ext'
  simp [strOfNums, sB, Function.comp_def, List.map_take, List.map_drop, List.take_drop]
theorem sB_app (a b : ByteArray) : sB (a ++ b) = sB a ++ sB b := by simp [sB]
theorem bt_sB (s : ByteArray) (i : Int) : bt s i = (sB s).getD i.toNat 0 := by
  unfold bt sB
  simp only [List.getD_eq_getElem?_getD, List.getElem?_map]
  cases s.data.toList[i.toNat]? <;> rfl
theorem eq_sB (s t : ByteArray) : (s.toList == t.toList) = decide (sB s = sB t) := by
  rw [ByteArray.toList_eq, ByteArray.toList_eq, Bool.eq_iff_iff, beq_iff_eq, decide_eq_true_eq]
  constructor
  · intro h; rw [sB, h]; rfl
  · intro h
    have := congrArg strOfNums h
    rw [str_sB, str_sB] at this
    rw [this]
theorem sB_lit (l : List Int) (a : Array UInt8) (h : a.toList.map (fun b => (b.toNat : Int)) = l) : sB ⟨a⟩ = l := h
end Go.Proofs.Ytlhhibhcoefolaa.Eng
