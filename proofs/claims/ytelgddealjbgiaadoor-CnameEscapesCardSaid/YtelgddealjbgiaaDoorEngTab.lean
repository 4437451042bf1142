/- The tables that a row's listed variables give, for the small machine. -/
import Derived.Test.YtelgddealjbgiaaDoorEngLaw
import Derived.Lib.LaidTab
import Derived.Stop.LaidErr
namespace Go.Proofs.YtelgddealjbgiaaDoor.Eng
open Go
theorem tab_of {P : Program} {w : World} {name : String} {k : IntKind} {zs : List Int} {g : Nat} (h : Lib.TabIs P w name k zs) (hg : P.globalNamed name = some g) :
    g < w.heap.size ∧ ∀ (i : Nat) (v : Value), (zs.map fun z => Value.int k z)[i]? = some v → v.oneCell' = true ∧ w.cell? ⟨g, i, none⟩ = some v := by
  refine ⟨?_, fun i v hi => ?_⟩
  · unfold Lib.TabIs World.var? at h
    rw [hg] at h
    simp only [Option.bind_some] at h
    cases hw : w.heap[g]? with
    | none => rw [hw] at h; cases h
    | some o => exact (Array.getElem?_eq_some_iff.1 hw).1
  · rw [List.getElem?_map] at hi
    cases hz : zs[i]? with
    | none => rw [hz] at hi; cases hi
    | some z =>
      rw [hz] at hi
      cases hi
      refine ⟨rfl, ?_⟩
      have := h.cell hg i (List.getElem?_eq_some_iff.1 hz).1
      rw [this, List.getD_eq_getElem?_getD, hz]; rfl
theorem lookup_tab {α : Type} : ∀ {l : List (Nat × α)} {g : Nat} {x : α}, l.lookup g = some x → (g, x) ∈ l
  | [], _, _, h => by cases h
  | (a, y) :: l, g, x, h => by
    rw [List.lookup_cons] at h
    split at h
    · rename_i e
      have : g = a := by simpa using e
      cases h; subst this; exact List.mem_cons_self ..
    · exact List.mem_cons_of_mem _ (lookup_tab h)
theorem tabsAt_of {w : World} (h : ∀ p ∈ tabL, p.1 < w.heap.size ∧ ∀ (i : Nat) (v : Value), p.2[i]? = some v → v.oneCell' = true ∧ w.cell? ⟨p.1, i, none⟩ = some v) : TabsAt w fun b => b < w.heap.size := fun g l hl => h (g, l) (lookup_tab hl)
end Go.Proofs.YtelgddealjbgiaaDoor.Eng
