/- A text of so many lines, whatever ends them, has so many, each beginning at column 0: for any list of whole numbers (each chooses how a line ends) and any width (lists of more than 30 numbers and widths that are not from 0 to 20 are let through). -/
import Derived.Test.YtfccaobkbcjdkaaQx3
import Derived.Test.YtfccaobkbcjdkaaLinesAlive
namespace Go.Proofs.Ytfccaobkbcjdkaa.Pure
open Go.RowKit Go.Proofs.YtfccaobkbcjdkaaW.PrintWords Go.Proofs.Ytfccaobkbcjdkaa.Base Go.Proofs.Ytfccaobkbcjdkaa.Utf Go.Proofs.Ytfccaobkbcjdkaa.UtfEq Go.Proofs.Ytfccaobkbcjdkaa.Lines Go.Proofs.Ytfccaobkbcjdkaa.LinesEq Go.Proofs.Ytfccaobkbcjdkaa.Q

theorem ends_true (l : List Int) (w : Int) (live : Bool) (hl : live = true) : Evt (fun k => abridgerlaw2_LinesEnds.j0 k l w live true) true := by
  subst hl
  refine Evt.succ ?_
  simp only [abridgerlaw2_LinesEnds.j0, if_true]
  exact Evt.const _
def marks : List ByteArray := [(⟨#[10]⟩ : ByteArray), (⟨#[13]⟩ : ByteArray), (⟨#[13, 10]⟩ : ByteArray)]
def mark (j : Nat) : List Int := if j = 0 then [10] else if j = 1 then [13] else [13, 10]
theorem mark_at (j : Nat) (hj : j < 3) : bytesOf (rdOf ByteArray.empty marks (j : Int)) = mark j ∧ (rdOf ByteArray.empty marks (j : Int)).size = (mark j).length ∧ bt (rdOf ByteArray.empty marks (j : Int)) 0 = (mark j).head?.getD 0 := by
  rcases j with _ | _ | _ | j
  · exact ⟨by decide, by decide, by decide⟩
  · exact ⟨by decide, by decide, by decide⟩
  · exact ⟨by decide, by decide, by decide⟩
  · omega
/-- Bytes that are put behind, one by one. -/
theorem add_x1 (l : List Int) (w : Nat) (ms : List ByteArray) (i : Int) (R : Bool) (hw : w ≤ 20) (d : Nat) : ∀ (b : List Int) (j : Nat), j + d = w → b.length ≤ 10000 + j →
    Evt (fun k => abridgerlaw2_LinesEnds.l1 k l (w : Int) ms (b ++ List.replicate d 120) i (w : Int)) R → Evt (fun k => abridgerlaw2_LinesEnds.l1 k l (w : Int) ms b i (j : Int)) R := by
  induction d with
  | zero =>
    intro b j hj _ h
    obtain rfl : j = w := by omega
    simpa using h
  | succ d ih =>
    intro b j hj hb h
    refine Evt.succ ?_
    simp only [abridgerlaw2_LinesEnds.l1]
    refine Evt.pos (by omega) (Evt.pos (by omega) ?_)
    rw [wrap64_in (by omega) (by omega), show (j : Int) + 1 = ((j + 1 : Nat) : Int) by omega]
    refine ih (b ++ [120]) (j + 1) (by omega) (by rw [List.length_append, List.length_singleton]; omega) ?_
    rw [List.append_assoc, List.singleton_append, ← List.replicate_succ]
    exact h
theorem add_x2 (l : List Int) (w : Nat) (R : Bool) (hw : w ≤ 20) (d : Nat) : ∀ (b : List Int) (j : Nat), j + d = w → b.length ≤ 10000 + j →
    Evt (fun k => abridgerlaw2_LinesEnds.l2 k l (w : Int) (b ++ List.replicate d 120) (w : Int)) R → Evt (fun k => abridgerlaw2_LinesEnds.l2 k l (w : Int) b (j : Int)) R := by
  induction d with
  | zero =>
    intro b j hj _ h
    obtain rfl : j = w := by omega
    simpa using h
  | succ d ih =>
    intro b j hj hb h
    refine Evt.succ ?_
    simp only [abridgerlaw2_LinesEnds.l2]
    refine Evt.pos (by omega) (Evt.pos (by omega) ?_)
    rw [wrap64_in (by omega) (by omega), show (j : Int) + 1 = ((j + 1 : Nat) : Int) by omega]
    refine ih (b ++ [120]) (j + 1) (by omega) (by rw [List.length_append, List.length_singleton]; omega) ?_
    rw [List.append_assoc, List.singleton_append, ← List.replicate_succ]
    exact h
def Ascii (b : List Int) : Prop := ∀ c ∈ b, 0 ≤ c ∧ c < 128
theorem Ascii.bytes {b : List Int} (h : Ascii b) : Bytes b := fun x hx => by have := h x hx; omega
theorem Ascii.append {a b : List Int} (ha : Ascii a) (hb : Ascii b) : Ascii (a ++ b) := fun x hx => (List.mem_append.1 hx).elim (ha x) (hb x)
theorem Ascii.x (w : Nat) : Ascii (List.replicate w 120) := fun x hx => by
  have := (List.mem_replicate.1 hx).2
  omega
theorem Ascii.mark (j : Nat) : Ascii (mark j) := by
  unfold Pure.mark
  (repeat' split) <;> (intro x hx; simp at hx; omega)
theorem run_mark (j : Nat) (nx : Option Int) (h : j = 1 → nx ≠ some 10) (p : Int × Int) : runO (mark j) nx p = (p.1 + 1, 0) := by
  unfold mark
  split
  · simp [runO, stpO, brkO]
  · split
    · simp [runO, stpO, brkO, h (by assumption)]
    · simp [runO, stpO, brkO]
/-- What holds of the text of i lines: behind it, ahead of whatever may follow, line i begins. -/
def Ok (b : List Int) (i : Nat) : Prop := Ascii b ∧ ∀ nx, (b.getLast? = some 13 → nx ≠ some 10) → runO b nx (0, 0) = ((i : Int), 0)
theorem place_run {b : List Int} (h : Ascii b) : place b b.length = runO b none (0, 0) := at_runO b _ _ (Nat.le_refl _) h
theorem ok_next {b : List Int} {i : Nat} (h : Ok b i) (w j : Nat) (hj : j < 3) (hx : w = 0 → b.getLast? = some 13 → (mark j).head? ≠ some 10) : Ok (b ++ List.replicate w 120 ++ mark j) (i + 1) := by
  refine ⟨(h.1.append (Ascii.x w)).append (Ascii.mark j), fun nx hnx => ?_⟩
  have hne : mark j ≠ [] := by unfold mark; (repeat' split) <;> simp
  have hlast : (b ++ List.replicate w 120 ++ mark j).getLast? = (mark j).getLast? := by
    rw [List.getLast?_append]
    cases h : (mark j).getLast? with
    | none => exact absurd (List.getLast?_eq_none_iff.1 h) hne
    | some x => rfl
  rw [hlast] at hnx
  have e1 : runO b ((List.replicate w 120 ++ mark j).head?.or nx) (0, 0) = ((i : Int), 0) := by
    refine h.2 _ (fun hl => ?_)
    rcases w with _ | w
    · have := hx rfl hl
      simp only [List.replicate_zero, List.nil_append]
      rcases hm : mark j with _ | ⟨c, t⟩
      · exact absurd hm hne
      · rw [hm] at this
        simpa using this
    · simp [List.replicate_succ]
  rw [List.append_assoc, runO_append, e1, runO_append, runO_x, run_mark]
  · simp
  · rintro rfl
    exact hnx rfl

/-- A mark is put behind, and the place behind it is looked at. -/
theorem ends_j3 (l : List Int) (w : Nat) (b : List Int) (i : Nat) (M : ByteArray) (m : List Int) (m1 : bytesOf M = m) (m2 : M.size = m.length) (hbl : b.length ≤ 1000) (hok' : Ok (b ++ m) (i + 1)) (hlen' : (b ++ m).length ≤ 22 * (i + 1)) (hi : i ≤ 30)
    (h : Evt (fun k => abridgerlaw2_LinesEnds.l0 k l (w : Int) marks (b ++ m) ((i : Int) + 1)) true) : Evt (fun k => abridgerlaw2_LinesEnds.j3 k l (w : Int) marks b (i : Int) M false) true := by
  have hml : m.length ≤ 1000 := by rw [List.length_append] at hlen'; omega
  have hpl : place (b ++ m) (b ++ m).length = (((i + 1 : Nat) : Int), 0) := by
    rw [place_run hok'.1]
    exact hok'.2 none (fun _ => by simp)
  have h1 := at_in_ev (b ++ m) hok'.1.bytes (by omega) ((b ++ m).length : Int) (b ++ m).length rfl (Nat.le_refl _)
  rw [hpl] at h1
  have key : Evt (fun k => (some (b ++ m : List Int)).bind fun y => (lines_At.f k y (y.length : Int)).bind fun bt => if bt.1 = wrap64 ((i : Int) + 1) then if bt.2 = 0 then abridgerlaw2_LinesEnds.l0 k l (w : Int) marks y (wrap64 ((i : Int) + 1)) else some false else some false) true := by
    rw [wrap64_in (by omega) (by omega)]
    refine Evt.bind (Evt.const (b ++ m)) (Evt.bind h1 (Evt.pos ?_ (Evt.pos rfl h)))
    show ((i + 1 : Nat) : Int) = (i : Int) + 1
    omega
  have hsz : b.length + M.size < 140737488355328 := by omega
  refine Evt.succ ?_
  simp only [abridgerlaw2_LinesEnds.j3]
  rw [m1]
  refine Evt.neg (by decide) ?_
  exact Evt.pos hsz key

/-- The loop over the lines. -/
theorem ends_l0 (l : List Int) (w : Nat) (hl : l.length ≤ 30) (hw : w ≤ 20) (d : Nat) : ∀ (b : List Int) (i : Nat), i + d = l.length → Ok b i → b.length ≤ 22 * i → (i = 0 → b = []) → (0 < i → b ≠ []) →
    Evt (fun k => abridgerlaw2_LinesEnds.l0 k l (w : Int) marks b (i : Int)) true := by
  induction d with
  | zero =>
    intro b i hi hok hb _ _
    refine Evt.succ ?_
    simp only [abridgerlaw2_LinesEnds.l0]
    refine Evt.neg (by omega) ?_
    refine add_x2 l w true hw w b 0 (by omega) (by omega) ?_
    have hasc := hok.1.append (Ascii.x w)
    have hlen : (b ++ List.replicate w 120).length ≤ 1000 := by rw [List.length_append, List.length_replicate]; omega
    have hpl : place (b ++ List.replicate w 120) (b ++ List.replicate w 120).length = ((l.length : Int), (w : Int)) := by
      rw [place_run hasc, runO_append, runO_x]
      have : runO b ((List.replicate w 120).head?.or none) (0, 0) = ((i : Int), 0) := by
        refine hok.2 _ (fun _ => ?_)
        cases w <;> simp [List.replicate_succ]
      rw [this]
      simp only [Prod.mk.injEq]
      omega
    have h1 := at_in_ev _ hasc.bytes (by omega) ((b ++ List.replicate w 120).length : Int) _ rfl (Nat.le_refl _)
    have h2 := count_ev _ hasc.bytes (by omega)
    rw [hpl] at h1 h2
    refine Evt.succ ?_
    simp only [abridgerlaw2_LinesEnds.l2]
    refine Evt.neg (by omega) (Evt.bind h1 (Evt.pos rfl (Evt.pos rfl (Evt.bind h2 (Evt.of ?_)))))
    rw [wrap64_in (by omega) (by omega)]
    simp
  | succ d ih =>
    intro b i hi hok hb hb0 hb1
    refine Evt.succ ?_
    simp only [abridgerlaw2_LinesEnds.l0]
    refine Evt.pos (by omega) ?_
    refine add_x1 l w marks (i : Int) true hw w b 0 (by omega) (by omega) ?_
    -- the mark that is chosen
    have hr : 0 ≤ bits .and .i64 (rd l (i : Int)) 1023 ∧ bits .and .i64 (rd l (i : Int)) 1023 ≤ 1023 := and_range (rd l (i : Int)) 1023 (by decide)
    obtain ⟨j, hj3, hj⟩ : ∃ j : Nat, j < 3 ∧ Int.tmod (bits .and .i64 (rd l (i : Int)) 1023) 3 = (j : Int) := by
      refine ⟨(Int.tmod (bits .and .i64 (rd l (i : Int)) 1023) 3).toNat, ?_, ?_⟩ <;> (rw [Int.tmod_eq_emod_of_nonneg hr.1]; omega)
    obtain ⟨m1, m2, m3⟩ := mark_at j hj3
    have hmlen : (mark j).length ≤ 2 ∧ 1 ≤ (mark j).length := by unfold mark; (repeat' split) <;> simp
    have hblen : (b ++ List.replicate w 120).length = b.length + w := by rw [List.length_append, List.length_replicate]
    have go : (w = 0 → b.getLast? = some 13 → (mark j).head? ≠ some 10) → Evt (fun k => abridgerlaw2_LinesEnds.j3 k l (w : Int) marks (b ++ List.replicate w 120) (i : Int) (rdOf ByteArray.empty marks (j : Int)) false) true := by
      intro hx
      have hok' := ok_next hok w j hj3 hx
      have hlen' : (b ++ List.replicate w 120 ++ mark j).length ≤ 22 * (i + 1) := by rw [List.length_append, hblen]; omega
      refine ends_j3 l w (b ++ List.replicate w 120) i (rdOf ByteArray.empty marks (j : Int)) (mark j) m1 m2 (by omega) hok' hlen' (by omega) ?_
      rw [show (i : Int) + 1 = ((i + 1 : Nat) : Int) by omega]
      refine ih _ (i + 1) (by omega) hok' hlen' (by omega) (fun _ h => ?_)
      have := congrArg List.length h
      rw [List.length_append, List.length_nil] at this
      omega
    refine Evt.succ ?_
    simp only [abridgerlaw2_LinesEnds.l1, hj]
    refine Evt.neg (by omega) (Evt.pos (by omega) (Evt.pos (by omega) (Evt.pos (by omega) (Evt.pos ?_ ?_))))
    · have : (marks.length : Int) = 3 := by decide
      omega
    by_cases hw0 : (w : Int) = 0
    · have hw0' : w = 0 := by omega
      subst hw0'
      simp only [List.replicate_zero, List.append_nil] at hblen go ⊢
      refine Evt.pos rfl ?_
      by_cases hi0 : (i : Int) > 0
      · have hbne := hb1 (by omega)
        have hbl : 0 < b.length := List.length_pos_iff.2 hbne
        refine Evt.pos hi0 ?_
        rw [wrap64_in (by omega) (by omega)]
        refine Evt.pos (by omega) (Evt.pos (by omega) ?_)
        have hlast : rd b ((b.length : Int) - 1) = b.getLast hbne := by
          unfold rd
          rw [show ((b.length : Int) - 1).toNat = b.length - 1 by omega, List.getLast_eq_getElem, List.getD_eq_getElem?_getD, List.getElem?_eq_getElem (by omega)]
          rfl
        rw [hlast]
        by_cases h13 : b.getLast hbne = 13
        · refine Evt.pos h13 (Evt.pos (by rw [m2]; omega) ?_)
          rw [m3]
          by_cases h10 : (mark j).head?.getD 0 = 10
          · rw [show ((mark j).head?.getD 0 == 10) = true by rw [h10]; rfl]
            refine Evt.succ ?_
            simp only [abridgerlaw2_LinesEnds.j3, if_true]
            exact Evt.const _
          · rw [show ((mark j).head?.getD 0 == 10) = false by rw [beq_eq_false_iff_ne]; exact h10]
            exact go (fun _ _ h => h10 (by rw [h]; rfl))
        · refine Evt.neg h13 (go (fun _ h => ?_))
          rw [List.getLast?_eq_some_getLast hbne] at h
          exact absurd (Option.some.inj h) h13
      · refine Evt.neg hi0 (go (fun _ h => ?_))
        rw [hb0 (by omega)] at h
        simp at h
    · exact Evt.neg hw0 (go (fun h => by omega))

theorem LinesEnds : abridgerlaw2_LinesEnds.Pure := by
  intro l w _ _ _ _
  apply Evt.ex
  simp only [abridgerlaw2_LinesEnds.f]
  refine Evt.bind alive_ev (Evt.pos rfl ?_)
  by_cases h1 : (l.length : Int) > 30
  · exact Evt.pos h1 (ends_true _ _ _ rfl)
  refine Evt.neg h1 ?_
  by_cases h2 : w < 0
  · exact Evt.pos h2 (ends_true _ _ _ rfl)
  refine Evt.neg h2 ?_
  by_cases h3 : w > 20
  · rw [decide_eq_true h3]
    exact ends_true _ _ _ rfl
  rw [decide_eq_false h3]
  obtain ⟨w, rfl⟩ := Int.eq_ofNat_of_zero_le (show 0 ≤ w by omega)
  refine Evt.succ ?_
  simp only [abridgerlaw2_LinesEnds.j0, Bool.false_eq_true, if_false]
  exact ends_l0 l w (by omega) (by omega) l.length [] 0 (by omega) ⟨fun _ h => by simp at h, fun _ _ => rfl⟩ (by simp) (fun _ => rfl) (fun h => by omega)
end Go.Proofs.Ytfccaobkbcjdkaa.Pure
