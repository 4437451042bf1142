/- Which code point any bytes have at any place, whether they are UTF-8, and how any number is written: for any text of bytes, any place and any number (texts of more than 300 bytes are let through). -/
import Derived.Test.YtjfimecfhmchhaaQx10
import Derived.Test.YtjfimecfhmchhaaUtfAlive
import Derived.Test.YtjfimecfhmchhaaRefEq
namespace Go.Proofs.Ytjfimecfhmchhaa.Pure
open Go.RowKit Go.Proofs.YtjfimecfhmchhaaW.PrintWords Go.Proofs.Ytjfimecfhmchhaa.Base Go.Proofs.Ytjfimecfhmchhaa.Utf Go.Proofs.Ytjfimecfhmchhaa.UtfEq Go.Proofs.Ytjfimecfhmchhaa.RefEq Go.Proofs.Ytjfimecfhmchhaa.Q

theorem UtfTells : abridgerlaw1_UtfTells.Pure := by
  intro l i r _ _ wl _ _
  have hb := Bytes.of_wf wl
  apply Evt.ex
  simp only [abridgerlaw1_UtfTells.f]
  refine Evt.bind alive_ev (Evt.pos rfl (Evt.succ ?_))
  by_cases h1 : (l.length : Int) > 300
  · rw [decide_eq_true h1]
    simp only [abridgerlaw1_UtfTells.j0]
    exact Evt.pos (by simp) (Evt.const _)
  rw [decide_eq_false h1]
  obtain ⟨rs, t, hl, hrs, ht⟩ := parts l hb
  have hbt : Bytes t := by rw [hl] at hb; exact hb.right
  have n1 := next_ev l hb (by omega) i
  have n2 := ref_next_ev l hb (by omega) i
  have v1 := valid_ev hrs ht hbt (by rw [← hl]; omega)
  have v2 := ref_valid_ev hrs ht hbt (by rw [← hl]; omega)
  rw [← hl] at v1 v2
  have p1 := put_ev l r (by omega)
  have p2 := ref_put_ev l r (by omega)
  simp only [abridgerlaw1_UtfTells.j0, List.nil_append]
  refine Evt.neg (by decide) (Evt.pos (by simp only [List.length_nil]; omega) (Evt.bind n1 (Evt.bind n2 (Evt.bind v1 (Evt.bind v2 ?_)))))
  refine Evt.pos (by simp) (Evt.pos (by simp) (Evt.pos (by simp) (Evt.pos (by simp) (Evt.pos (by simp) (Evt.bind p1 (Evt.bind p2 (Evt.pos (by simp) ?_)))))))
  rw [units_eq, ref_units_eq]
  exact Evt.of (by simp)
end Go.Proofs.Ytjfimecfhmchhaa.Pure
