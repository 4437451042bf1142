/- How much came in, and the second form's measure of it. -/
import Derived.Test.YthcgkfgkknofnaaRows
import Derived.Test.YthcgkfgkknofnaaEngLaw
namespace Go.Proofs.Ythcgkfgkknofnaa.Eng
open Go Go.RowKit
mutual
theorem dwB_le {H : Type} : ∀ d : DataW H, dwB d ≤ Rows.uptoBulk d
  | .lit l => by cases l <;> simp [dwB, Rows.uptoBulk]
  | .nil => by simp [dwB, Rows.uptoBulk]
  | .ptr d => by simp [dwB, Rows.uptoBulk]
  | .slice l s => by have := dwBs_le l; simp only [dwB, Rows.uptoBulk]; omega
  | .agg l => by have := dwBs_le l; simp only [dwB, Rows.uptoBulk]; omega
  | .iface _ d => by simp [dwB, Rows.uptoBulk]
  | .map m => by simp [dwB, Rows.uptoBulk]
  | .held h => by simp [dwB, Rows.uptoBulk]
theorem dwBs_le {H : Type} : ∀ l : List (DataW H), dwBs l ≤ Rows.uptoBulkAll l
  | [] => Nat.le_refl 0
  | d :: l => by have := dwB_le d; have := dwBs_le l; simp only [dwBs, Rows.uptoBulkAll]; omega
end
end Go.Proofs.Ythcgkfgkknofnaa.Eng
