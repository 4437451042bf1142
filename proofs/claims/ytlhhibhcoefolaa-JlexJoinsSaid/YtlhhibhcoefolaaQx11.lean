-- Written by a program of this session (wip/tools/print2.sh), out of the translation, for this claim. Lean checks it.
import Derived.Test.YtlhhibhcoefolaaQx0
import Derived.Test.YtlhhibhcoefolaaQx9
namespace Go.Proofs.Ytlhhibhcoefolaa.Q
open Go.RowKit Go.Proofs.YtlhhibhcoefolaaW.PrintWords Go.Proofs.YtlhhibhcoefolaaW.PrintLast Go.Proofs.YtlhhibhcoefolaaW.PrintMore
attribute [local go_sem] max2_int min2_int max_two min_two max_three min_three max_four min_four   -- for this text's walks alone
set_option linter.unusedVariables false
set_option linter.unusedSimpArgs false

/-! ### jlex_word: function 25 -/
def jlex_word.l0 : Nat → List Int → Int → List ByteArray → Int → Int → Option (Int × Int)
  | 0, _, _, _, _, _ => none
  | k + 1, x0, x1, x9, x10, x11 => if x11 < x10 then (if 0 ≤ x11 then (if x11 < (x9.length : Int) then (if (wrap64 (x1 + ((rdOf ByteArray.empty x9 x11).size : Int))) ≤ (x0.length : Int) then (if 0 ≤ x1 then (if x1 ≤ (wrap64 (x1 + ((rdOf ByteArray.empty x9 x11).size : Int))) then (if (strOfNums ((x0.take ((wrap64 (x1 + ((rdOf ByteArray.empty x9 x11).size : Int))) : Int).toNat).drop (x1 : Int).toNat)).toList = (rdOf ByteArray.empty x9 x11).toList then ((jlex_ends.f x0 (wrap64 (x1 + ((rdOf ByteArray.empty x9 x11).size : Int)))).bind fun t156 => (if t156 = true then (some (wrap64 (9 + x11), wrap64 (x1 + ((rdOf ByteArray.empty x9 x11).size : Int)))) else (jlex_word.l0 k x0 x1 x9 x10 (wrap64 (x11 + 1))))) else (jlex_word.l0 k x0 x1 x9 x10 (wrap64 (x11 + 1)))) else (none)) else (none)) else (jlex_word.l0 k x0 x1 x9 x10 (wrap64 (x11 + 1)))) else (none)) else (none)) else (some (0, (-1)))
def jlex_word.f (k : Nat) (l0 : List Int) (a1 : Int) : Option (Int × Int) := (some (([(⟨#[116, 114, 117, 101]⟩ : ByteArray), (⟨#[102, 97, 108, 115, 101]⟩ : ByteArray), (⟨#[110, 117, 108, 108]⟩ : ByteArray)] : List ByteArray) : List ByteArray)).bind fun y148 => (jlex_word.l0 k l0 a1 y148 (y148.length : Int) 0)
theorem jlex_word.mono_l : ∀ k, (∀ y0 y1 y2 y3 y4, LeO (jlex_word.l0 k y0 y1 y2 y3 y4) (jlex_word.l0 (k + 1) y0 y1 y2 y3 y4))
  | 0 => fun _ _ _ _ _ r h => by simp [jlex_word.l0] at h
  | k + 1 => by
    have ih0 := jlex_word.mono_l k
    · intro y0 y1 y2 y3 y4
      unfold jlex_word.l0
      repeat' first
      | (with_reducible exact ih0 _ _ _ _ _)
      | (with_reducible exact LeO.refl _)
      | (with_reducible exact LeO.none _)
      | (with_reducible refine LeO.ite ?_ ?_)
      | (with_reducible refine LeO.bind ?_ (fun _ => ?_))
      | exact ih0 _ _ _ _ _
      | exact LeO.none _
      | refine LeO.ite ?_ ?_
      | refine LeO.bind ?_ (fun _ => ?_)
theorem jlex_word.mono : ∀ a0 a1 k, LeO (jlex_word.f k a0 a1) (jlex_word.f (k + 1) a0 a1) := by
  intro a0 a1 k
  have ih0 := jlex_word.mono_l k
  unfold jlex_word.f
  repeat' first
      | (with_reducible exact ih0 _ _ _ _ _)
      | (with_reducible exact LeO.refl _)
      | (with_reducible exact LeO.none _)
      | (with_reducible refine LeO.ite ?_ ?_)
      | (with_reducible refine LeO.bind ?_ (fun _ => ?_))
      | exact ih0 _ _ _ _ _
      | exact LeO.none _
      | refine LeO.ite ?_ ?_
      | refine LeO.bind ?_ (fun _ => ?_)
set_option maxHeartbeats 8000000 in
set_option maxRecDepth 100000 in
theorem jlex_word.calls (k : Nat) (A0 : Option Addr) (c0 : Nat) (l0 : List Int) (a1 : Int) (r1 : Int) (r2 : Int) (w : World) (hr0 : Kd.C (Kd.int .u8) w A0 l0.length l0) (hc0 : l0.length ≤ c0) (h : jlex_word.f k l0 a1 = some (r1, r2)) :
    Calls Try.prog 25 #[.slice A0 l0.length c0, .int .i64 a1] w fun e w' => e = .returned (.tuple #[.int .i64 r1, .int .i64 r2]) ∧ Below w.heap.size w w' := by
  have HR0 := Aside0.mk hr0
  have HC0 := Aside0.mk hc0
  clear hr0 hc0
  have HB := Aside0.mk (Below.refl w.heap.size w)
  have H : ((some (([(⟨#[116, 114, 117, 101]⟩ : ByteArray), (⟨#[102, 97, 108, 115, 101]⟩ : ByteArray), (⟨#[110, 117, 108, 108]⟩ : ByteArray)] : List ByteArray) : List ByteArray)).bind fun y148 => (jlex_word.l0 k l0 a1 y148 (y148.length : Int) 0)) = some (r1, r2) := h
  clear h
  obtain ⟨y148, hy148⟩ : ∃ y_ : List ByteArray, y_ = (([(⟨#[116, 114, 117, 101]⟩ : ByteArray), (⟨#[102, 97, 108, 115, 101]⟩ : ByteArray), (⟨#[110, 117, 108, 108]⟩ : ByteArray)] : List ByteArray)) := ⟨_, rfl⟩
  replace H : (jlex_word.l0 k l0 a1 y148 (y148.length : Int) 0) = some (r1, r2) := by first | (rw [hy148]; with_reducible exact H) | (have H2_ := (Option.bind_some _ _).symm.trans H; rw [hy148]; with_reducible exact H2_) | (have H2_ := (Option.bind_some _ _).symm.trans H; with_reducible exact H2_) | with_reducible exact H | (rw [hy148]; exact H) | exact H
  have Ny148 := Aside0.mk hy148
  clear hy148
  have H' := Aside0.mk H
  clear H
  go_enter Try.func25, Try.ntmps25
  go_wp2_with (first | ((with_reducible refine gate_dst (N := 9) rfl ?_); refine Kd.R_lit Kd.string _ 9 ?hg (N := 9) ?hd (xs := ([(⟨#[116, 114, 117, 101]⟩ : ByteArray), (⟨#[102, 97, 108, 115, 101]⟩ : ByteArray), (⟨#[110, 117, 108, 108]⟩ : ByteArray)] : List ByteArray)) (inner := [.string (⟨#[116, 114, 117, 101]⟩ : ByteArray), .string (⟨#[102, 97, 108, 115, 101]⟩ : ByteArray), .string (⟨#[110, 117, 108, 108]⟩ : ByteArray)]) (ok := fun _ => True) (okp := fun _ => True) ?hr ?hp (fun _ hk => hk) trivial (Below.refl _ _) (Nat.le_refl _) (by simp) ?_; (case hd => rfl); (case hg => rfl); (case hr => first | (go_simp; done) | (go_simp; rfl)); (case hp => exact (Reps.one (show Kd.M Kd.string _ _ _ (⟨#[116, 114, 117, 101]⟩ : ByteArray) [.string (⟨#[116, 114, 117, 101]⟩ : ByteArray)] from rfl) (Reps.one (show Kd.M Kd.string _ _ _ (⟨#[102, 97, 108, 115, 101]⟩ : ByteArray) [.string (⟨#[102, 97, 108, 115, 101]⟩ : ByteArray)] from rfl) (Reps.one (show Kd.M Kd.string _ _ _ (⟨#[110, 117, 108, 108]⟩ : ByteArray) [.string (⟨#[110, 117, 108, 108]⟩ : ByteArray)] from rfl) (Reps.none _ _))))); intro v149 w3 ho4 hb hg_ hnew_; clear hg_ hnew_; (first | rw [← Ny148.out] at ho4 | (simp only [Int.reduceToNat] at ho4; rw [← Ny148.out] at ho4)); have n0_ := Aside0.mk (Kd.R_lower ho4 (below_size (by repeat (first | (with_reducible first | exact HB.out | apply below_alloc | apply pw_below_drewN | apply below_drew1) | exact HB.out)))); have n1_ := Aside0.mk (below_step (by repeat (first | (with_reducible first | exact HB.out | apply below_alloc | apply pw_below_drewN | apply below_drew1) | exact HB.out)) hb); clear HB; have HO150 := n0_; have HB := n1_; clear n0_ n1_; clear hb ho4; obtain ⟨Ao5, co5, eo5⟩ := Kd.R_slice HO150.out; subst eo5))
  go_loopg [11] k (fun kq v11 w' => ∃ (x11_1 : Int), v11 = .int .i64 x11_1 ∧ Aside0 (jlex_word.l0 kq l0 a1 y148 (y148.length : Int) x11_1 = some (r1, r2)) ∧ Aside0 (kq ≤ k) ∧ Aside0 (Kd.R Kd.string 9 w' w.heap.size (fun _ => True) (.slice Ao5 y148.length co5) y148) ∧ Aside0 (Below w.heap.size w w'))
  case atStart => exact ⟨(0), (by first | rfl | (simp; done) | (simp [*]; done)), H', ⟨Nat.le_refl _⟩, ⟨by (with_reducible repeat (first | apply Kd.R_alloc | apply Kd.R_drewN | apply Kd.R_drew)); exact HO150.out⟩, ⟨by repeat (first | (with_reducible first | exact HB.out | apply below_alloc | apply pw_below_drewN | apply below_drew1) | exact HB.out)⟩⟩
  case round =>
    clear H'
    try clear c2
    try clear p2
    obtain ⟨x11_1, rfl, HA, HK1, HO_9, HB⟩ := hrel
    cases gk with
    | zero => exact absurd HA.out (by simp [jlex_word.l0])
    | succ k1 =>
      have H := HA.out
      clear HA
      simp only [jlex_word.l0] at H
      by_cases c6 : x11_1 < (y148.length : Int)
      · rw [if_pos c6] at H
        have c6b0 : decide (x11_1 < (y148.length : Int)) = true := decide_eq_true c6
        clear c6
        by_cases c7 : 0 ≤ x11_1
        · rw [if_pos c7] at H
          have c7b0 : decide (0 ≤ x11_1) = true := decide_eq_true c7
          clear c7
          by_cases c8 : x11_1 < (y148.length : Int)
          · rw [if_pos c8] at H
            have c8b0 : decide (x11_1 < (y148.length : Int)) = true := decide_eq_true c8
            clear c8
            by_cases c9 : (wrap64 (a1 + ((rdOf ByteArray.empty y148 x11_1).size : Int))) ≤ (l0.length : Int)
            · rw [if_pos c9] at H
              have c9b0 : decide ((wrap64 (a1 + ((rdOf ByteArray.empty y148 x11_1).size : Int))) ≤ (l0.length : Int)) = true := decide_eq_true c9
              clear c9
              by_cases c10 : 0 ≤ a1
              · rw [if_pos c10] at H
                have c10b0 := eq_true c10
                have c10b1 : decide (0 ≤ a1) = true := decide_eq_true c10
                clear c10
                by_cases c11 : a1 ≤ (wrap64 (a1 + ((rdOf ByteArray.empty y148 x11_1).size : Int)))
                · rw [if_pos c11] at H
                  have c11b0 := eq_true c11
                  have c11b1 : decide (a1 ≤ (wrap64 (a1 + ((rdOf ByteArray.empty y148 x11_1).size : Int)))) = true := decide_eq_true c11
                  have c12b0 := eq_true (of_decide_eq_true (by first | (with_reducible assumption) | assumption) : (wrap64 (a1 + ((rdOf ByteArray.empty y148 x11_1).size : Int))) ≤ (l0.length : Int))
                  obtain ⟨y152, hy152⟩ : ∃ y_ : List Int, y_ = ((l0.take ((wrap64 (a1 + ((rdOf ByteArray.empty y148 x11_1).size : Int))) : Int).toNat).drop (a1 : Int).toNat) := ⟨_, rfl⟩
                  replace H : (if (strOfNums y152).toList = (rdOf ByteArray.empty y148 x11_1).toList then ((jlex_ends.f l0 (wrap64 (a1 + ((rdOf ByteArray.empty y148 x11_1).size : Int)))).bind fun t156 => (if t156 = true then (some (wrap64 (9 + x11_1), wrap64 (a1 + ((rdOf ByteArray.empty y148 x11_1).size : Int)))) else (jlex_word.l0 k1 l0 a1 y148 (y148.length : Int) (wrap64 (x11_1 + 1))))) else (jlex_word.l0 k1 l0 a1 y148 (y148.length : Int) (wrap64 (x11_1 + 1)))) = some (r1, r2) := by first | (rw [hy152]; with_reducible exact H) | (have H2_ := (Option.bind_some _ _).symm.trans H; rw [hy152]; with_reducible exact H2_) | (have H2_ := (Option.bind_some _ _).symm.trans H; with_reducible exact H2_) | with_reducible exact H | (rw [hy152]; exact H) | exact H
                  have Ny152 := Aside0.mk hy152
                  clear hy152
                  by_cases c13 : (strOfNums y152).toList = (rdOf ByteArray.empty y148 x11_1).toList
                  · rw [if_pos c13] at H
                    have c13b0 : ((strOfNums y152).toList == (rdOf ByteArray.empty y148 x11_1).toList) = true := beq_iff_eq.mpr c13
                    have c13b1 : ((strOfNums y152).toList != (rdOf ByteArray.empty y148 x11_1).toList) = false := bne_eq_false_iff_eq.mpr c13
                    clear c13
                    replace H := Option.bind_eq_some_iff.mp H
                    obtain ⟨t156, A140, H⟩ := H
                    replace H : (if t156 = true then (some (wrap64 (9 + x11_1), wrap64 (a1 + ((rdOf ByteArray.empty y148 x11_1).size : Int)))) else (jlex_word.l0 k1 l0 a1 y148 (y148.length : Int) (wrap64 (x11_1 + 1)))) = some (r1, r2) := H
                    have A14 := Aside0.mk A140
                    clear A140
                    by_cases c15 : t156 = true
                    · subst c15
                      have H1 : (some (wrap64 (9 + x11_1), wrap64 (a1 + ((rdOf ByteArray.empty y148 x11_1).size : Int)))) = some (r1, r2) := by rw [if_pos rfl] at H; exact H
                      clear H
                      have H := H1
                      clear H1
                      simp only [Option.some.injEq, Prod.mk.injEq] at H
                      obtain ⟨rfl, rfl⟩ := H
                      have p151 : 0 ≤ (x11_1 : Int) := of_decide_eq_true (by first | (with_reducible assumption) | assumption)
                      have q151 : x11_1 < (y148.length : Int) := of_decide_eq_true (by first | (with_reducible assumption) | assumption)
                      obtain ⟨ad151, e151, hx151_0⟩ := Kd.at_string (Kd.R_reads' HO_9.out).2.2 x11_1 p151 q151
                      cases e151
                      replace p151 := eq_true p151
                      replace q151 := eq_true q151
                      have q16 : ((wrap64 (a1 + ((rdOf ByteArray.empty y148 x11_1).size : Int))) : Int) ≤ ((l0.length : Int) : Int) := of_decide_eq_true (by first | (with_reducible assumption) | assumption)
                      obtain ⟨i016, hi016, _, hsz16, _⟩ := info_parts info5
                      have hroom16 : l0.length ≤ c0 := HC0.out
                      have hC16 : Kd.C (Kd.int .u8) _ A0 l0.length l0 := HR0.out
                      have ql16 : (a1 : Int) ≤ ((wrap64 (a1 + ((rdOf ByteArray.empty y148 x11_1).size : Int))) : Int) := of_decide_eq_true (by first | (with_reducible assumption) | assumption)
                      have q016 : (0 : Int) ≤ (a1 : Int) := of_decide_eq_true (by first | (with_reducible assumption) | assumption)
                      have hcut16 := cut_mid (P := Try.prog) 22 5 .i64 .i64 Try.underlying22 hi016 1 hsz16 A0 l0.length c0 a1 (wrap64 (a1 + ((rdOf ByteArray.empty y148 x11_1).size : Int))) q016 ql16 q16 hroom16
                      have hr16 := Kd.C_mid (lo := (a1 : Int).toNat) (hi := ((wrap64 (a1 + ((rdOf ByteArray.empty y148 x11_1).size : Int))) : Int).toNat) (c := c0) hC16 (by omega) (by omega) hroom16
                      obtain ⟨A16, hA16⟩ : ∃ A1, A1 = (if c0 = (a1 : Int).toNat then A0 else (A0 : Option Addr).map (·.add ((a1 : Int).toNat * 1))) := ⟨_, rfl⟩
                      obtain ⟨c16, hc16⟩ : ∃ c1, c1 = c0 - (a1 : Int).toNat := ⟨_, rfl⟩
                      have hy16 : y152.length = ((wrap64 (a1 + ((rdOf ByteArray.empty y148 x11_1).size : Int))) : Int).toNat - (a1 : Int).toNat := (by rw [Ny152.out, List.length_drop, List.length_take] <;> omega)
                      rw [show ((l0).take ((wrap64 (a1 + ((rdOf ByteArray.empty y148 x11_1).size : Int))) : Int).toNat).drop (a1 : Int).toNat = y152 from Ny152.out.symm] at hr16
                      replace hr16 : Kd.C (Kd.int .u8) _ A16 y152.length y152 := (by rw [hA16]; exact hr16)
                      rw [← hy16, ← hA16, ← hc16] at hcut16
                      have HR155 := Aside0.mk hr16
                      have HC155 := Aside0.mk (show y152.length ≤ c16 from by rw [hy16, hc16]; exact Nat.sub_le_sub_right (Nat.le_trans (by omega) hroom16) _)
                      clear hr16 hC16 hroom16 hi016 hsz16 hc16
                      have KY16 := Aside0.mk hy16
                      have KA16 := Aside0.mk hA16
                      clear hy16 hA16
                      replace q16 := eq_true q16
                      have hcv17 := Kd.C_string (P := Try.prog) (A := A16) (c := c16) Try.underlying22 Try.underlying5 Try.underlying9 (Kd.C_below HR155.out HB.out)
                      have hcv17q := fun n_ : Nat => Kd.C_string (P := Try.prog) (A := A16) (c := c16) Try.underlying22 Try.underlying5 Try.underlying9 (Kd.C_drewN (Kd.C_below HR155.out HB.out) n_)
                      go_wp2_with (first | (go_at_call 36; (with_reducible refine (jlex_ends.calls _ _ l0 (wrap64 (a1 + ((rdOf ByteArray.empty y148 x11_1).size : Int))) true _ ?side1 ?side2 A14.out).mono ?_); (case side1 => repeat (first | exact (Kd.C_below HR0.out HB.out) | (with_reducible refine Kd.C_alloc ?_ _) | (with_reducible refine Kd.C_drewN ?_ _) | (with_reducible refine Kd.C_drew ?_))); (case side2 => exact HC0.out); rintro e w' ⟨rfl, ⟨nd, rfl⟩⟩))
                      go_ret2
                      exact ⟨by first | rfl | (simp [errW_none, errW_some] <;> rfl) | (simp [*, errW_none, errW_some] <;> rfl), by repeat (first | (with_reducible first | exact HB.out | apply below_alloc | apply pw_below_drewN | apply below_drew1) | exact HB.out)⟩
                    · replace c15 := Bool.eq_false_iff.mpr c15
                      subst c15
                      have H1 : (jlex_word.l0 k1 l0 a1 y148 (y148.length : Int) (wrap64 (x11_1 + 1))) = some (r1, r2) := by rw [if_neg (show ¬ (false = true) by decide)] at H; exact H
                      clear H
                      have H := H1
                      clear H1
                      have H' := Aside0.mk H
                      clear H
                      have p151 : 0 ≤ (x11_1 : Int) := of_decide_eq_true (by first | (with_reducible assumption) | assumption)
                      have q151 : x11_1 < (y148.length : Int) := of_decide_eq_true (by first | (with_reducible assumption) | assumption)
                      obtain ⟨ad151, e151, hx151_0⟩ := Kd.at_string (Kd.R_reads' HO_9.out).2.2 x11_1 p151 q151
                      cases e151
                      replace p151 := eq_true p151
                      replace q151 := eq_true q151
                      have q18 : ((wrap64 (a1 + ((rdOf ByteArray.empty y148 x11_1).size : Int))) : Int) ≤ ((l0.length : Int) : Int) := of_decide_eq_true (by first | (with_reducible assumption) | assumption)
                      obtain ⟨i018, hi018, _, hsz18, _⟩ := info_parts info5
                      have hroom18 : l0.length ≤ c0 := HC0.out
                      have hC18 : Kd.C (Kd.int .u8) _ A0 l0.length l0 := HR0.out
                      have ql18 : (a1 : Int) ≤ ((wrap64 (a1 + ((rdOf ByteArray.empty y148 x11_1).size : Int))) : Int) := of_decide_eq_true (by first | (with_reducible assumption) | assumption)
                      have q018 : (0 : Int) ≤ (a1 : Int) := of_decide_eq_true (by first | (with_reducible assumption) | assumption)
                      have hcut18 := cut_mid (P := Try.prog) 22 5 .i64 .i64 Try.underlying22 hi018 1 hsz18 A0 l0.length c0 a1 (wrap64 (a1 + ((rdOf ByteArray.empty y148 x11_1).size : Int))) q018 ql18 q18 hroom18
                      have hr18 := Kd.C_mid (lo := (a1 : Int).toNat) (hi := ((wrap64 (a1 + ((rdOf ByteArray.empty y148 x11_1).size : Int))) : Int).toNat) (c := c0) hC18 (by omega) (by omega) hroom18
                      obtain ⟨A18, hA18⟩ : ∃ A1, A1 = (if c0 = (a1 : Int).toNat then A0 else (A0 : Option Addr).map (·.add ((a1 : Int).toNat * 1))) := ⟨_, rfl⟩
                      obtain ⟨c18, hc18⟩ : ∃ c1, c1 = c0 - (a1 : Int).toNat := ⟨_, rfl⟩
                      have hy18 : y152.length = ((wrap64 (a1 + ((rdOf ByteArray.empty y148 x11_1).size : Int))) : Int).toNat - (a1 : Int).toNat := (by rw [Ny152.out, List.length_drop, List.length_take] <;> omega)
                      rw [show ((l0).take ((wrap64 (a1 + ((rdOf ByteArray.empty y148 x11_1).size : Int))) : Int).toNat).drop (a1 : Int).toNat = y152 from Ny152.out.symm] at hr18
                      replace hr18 : Kd.C (Kd.int .u8) _ A18 y152.length y152 := (by rw [hA18]; exact hr18)
                      rw [← hy18, ← hA18, ← hc18] at hcut18
                      have HR155 := Aside0.mk hr18
                      have HC155 := Aside0.mk (show y152.length ≤ c18 from by rw [hy18, hc18]; exact Nat.sub_le_sub_right (Nat.le_trans (by omega) hroom18) _)
                      clear hr18 hC18 hroom18 hi018 hsz18 hc18
                      have KY18 := Aside0.mk hy18
                      have KA18 := Aside0.mk hA18
                      clear hy18 hA18
                      replace q18 := eq_true q18
                      have hcv19 := Kd.C_string (P := Try.prog) (A := A18) (c := c18) Try.underlying22 Try.underlying5 Try.underlying9 (Kd.C_below HR155.out HB.out)
                      have hcv19q := fun n_ : Nat => Kd.C_string (P := Try.prog) (A := A18) (c := c18) Try.underlying22 Try.underlying5 Try.underlying9 (Kd.C_drewN (Kd.C_below HR155.out HB.out) n_)
                      go_wp2_with (first | (go_at_call 36; (with_reducible refine (jlex_ends.calls _ _ l0 (wrap64 (a1 + ((rdOf ByteArray.empty y148 x11_1).size : Int))) false _ ?side1 ?side2 A14.out).mono ?_); (case side1 => repeat (first | exact (Kd.C_below HR0.out HB.out) | (with_reducible refine Kd.C_alloc ?_ _) | (with_reducible refine Kd.C_drewN ?_ _) | (with_reducible refine Kd.C_drew ?_))); (case side2 => exact HC0.out); rintro e w' ⟨rfl, ⟨nd, rfl⟩⟩))
                      go_roundg k1
                      case measure => have := HK1.out; omega
                      case rel => exact ⟨(wrap64 (x11_1 + 1)), (by first | rfl | (simp; done) | (simp [*]; done)), H', ⟨by have := HK1.out; omega⟩, ⟨by (with_reducible repeat (first | apply Kd.R_alloc | apply Kd.R_drewN | apply Kd.R_drew)); exact HO_9.out⟩, ⟨by repeat (first | (with_reducible first | exact HB.out | apply below_alloc | apply pw_below_drewN | apply below_drew1) | exact HB.out)⟩⟩
                  · rw [if_neg c13] at H
                    have c13b0 : ((strOfNums y152).toList == (rdOf ByteArray.empty y148 x11_1).toList) = false := beq_eq_false_iff_ne.mpr c13
                    have c13b1 : ((strOfNums y152).toList != (rdOf ByteArray.empty y148 x11_1).toList) = true := bne_iff_ne.mpr c13
                    have H' := Aside0.mk H
                    clear H
                    have p151 : 0 ≤ (x11_1 : Int) := of_decide_eq_true (by first | (with_reducible assumption) | assumption)
                    have q151 : x11_1 < (y148.length : Int) := of_decide_eq_true (by first | (with_reducible assumption) | assumption)
                    obtain ⟨ad151, e151, hx151_0⟩ := Kd.at_string (Kd.R_reads' HO_9.out).2.2 x11_1 p151 q151
                    cases e151
                    replace p151 := eq_true p151
                    replace q151 := eq_true q151
                    have q20 : ((wrap64 (a1 + ((rdOf ByteArray.empty y148 x11_1).size : Int))) : Int) ≤ ((l0.length : Int) : Int) := of_decide_eq_true (by first | (with_reducible assumption) | assumption)
                    obtain ⟨i020, hi020, _, hsz20, _⟩ := info_parts info5
                    have hroom20 : l0.length ≤ c0 := HC0.out
                    have hC20 : Kd.C (Kd.int .u8) _ A0 l0.length l0 := HR0.out
                    have ql20 : (a1 : Int) ≤ ((wrap64 (a1 + ((rdOf ByteArray.empty y148 x11_1).size : Int))) : Int) := of_decide_eq_true (by first | (with_reducible assumption) | assumption)
                    have q020 : (0 : Int) ≤ (a1 : Int) := of_decide_eq_true (by first | (with_reducible assumption) | assumption)
                    have hcut20 := cut_mid (P := Try.prog) 22 5 .i64 .i64 Try.underlying22 hi020 1 hsz20 A0 l0.length c0 a1 (wrap64 (a1 + ((rdOf ByteArray.empty y148 x11_1).size : Int))) q020 ql20 q20 hroom20
                    have hr20 := Kd.C_mid (lo := (a1 : Int).toNat) (hi := ((wrap64 (a1 + ((rdOf ByteArray.empty y148 x11_1).size : Int))) : Int).toNat) (c := c0) hC20 (by omega) (by omega) hroom20
                    obtain ⟨A20, hA20⟩ : ∃ A1, A1 = (if c0 = (a1 : Int).toNat then A0 else (A0 : Option Addr).map (·.add ((a1 : Int).toNat * 1))) := ⟨_, rfl⟩
                    obtain ⟨c20, hc20⟩ : ∃ c1, c1 = c0 - (a1 : Int).toNat := ⟨_, rfl⟩
                    have hy20 : y152.length = ((wrap64 (a1 + ((rdOf ByteArray.empty y148 x11_1).size : Int))) : Int).toNat - (a1 : Int).toNat := (by rw [Ny152.out, List.length_drop, List.length_take] <;> omega)
                    rw [show ((l0).take ((wrap64 (a1 + ((rdOf ByteArray.empty y148 x11_1).size : Int))) : Int).toNat).drop (a1 : Int).toNat = y152 from Ny152.out.symm] at hr20
                    replace hr20 : Kd.C (Kd.int .u8) _ A20 y152.length y152 := (by rw [hA20]; exact hr20)
                    rw [← hy20, ← hA20, ← hc20] at hcut20
                    have HR155 := Aside0.mk hr20
                    have HC155 := Aside0.mk (show y152.length ≤ c20 from by rw [hy20, hc20]; exact Nat.sub_le_sub_right (Nat.le_trans (by omega) hroom20) _)
                    clear hr20 hC20 hroom20 hi020 hsz20 hc20
                    have KY20 := Aside0.mk hy20
                    have KA20 := Aside0.mk hA20
                    clear hy20 hA20
                    replace q20 := eq_true q20
                    have hcv21 := Kd.C_string (P := Try.prog) (A := A20) (c := c20) Try.underlying22 Try.underlying5 Try.underlying9 (Kd.C_below HR155.out HB.out)
                    have hcv21q := fun n_ : Nat => Kd.C_string (P := Try.prog) (A := A20) (c := c20) Try.underlying22 Try.underlying5 Try.underlying9 (Kd.C_drewN (Kd.C_below HR155.out HB.out) n_)
                    go_wp2
                    go_roundg k1
                    case measure => have := HK1.out; omega
                    case rel => exact ⟨(wrap64 (x11_1 + 1)), (by first | rfl | (simp; done) | (simp [*]; done)), H', ⟨by have := HK1.out; omega⟩, ⟨by (with_reducible repeat (first | apply Kd.R_alloc | apply Kd.R_drewN | apply Kd.R_drew)); exact HO_9.out⟩, ⟨by repeat (first | (with_reducible first | exact HB.out | apply below_alloc | apply pw_below_drewN | apply below_drew1) | exact HB.out)⟩⟩
                · rw [if_neg c11] at H
                  exact absurd H (by simp)
              · rw [if_neg c10] at H
                exact absurd H (by simp)
            · rw [if_neg c9] at H
              have c9b0 : decide ((wrap64 (a1 + ((rdOf ByteArray.empty y148 x11_1).size : Int))) ≤ (l0.length : Int)) = false := decide_eq_false c9
              clear c9
              have H' := Aside0.mk H
              clear H
              have p151 : 0 ≤ (x11_1 : Int) := of_decide_eq_true (by first | (with_reducible assumption) | assumption)
              have q151 : x11_1 < (y148.length : Int) := of_decide_eq_true (by first | (with_reducible assumption) | assumption)
              obtain ⟨ad151, e151, hx151_0⟩ := Kd.at_string (Kd.R_reads' HO_9.out).2.2 x11_1 p151 q151
              cases e151
              replace p151 := eq_true p151
              replace q151 := eq_true q151
              go_wp2
              go_roundg k1
              case measure => have := HK1.out; omega
              case rel => exact ⟨(wrap64 (x11_1 + 1)), (by first | rfl | (simp; done) | (simp [*]; done)), H', ⟨by have := HK1.out; omega⟩, ⟨by (with_reducible repeat (first | apply Kd.R_alloc | apply Kd.R_drewN | apply Kd.R_drew)); exact HO_9.out⟩, ⟨by repeat (first | (with_reducible first | exact HB.out | apply below_alloc | apply pw_below_drewN | apply below_drew1) | exact HB.out)⟩⟩
          · rw [if_neg c8] at H
            exact absurd H (by simp)
        · rw [if_neg c7] at H
          exact absurd H (by simp)
      · rw [if_neg c6] at H
        have c6b0 : decide (x11_1 < (y148.length : Int)) = false := decide_eq_false c6
        clear c6
        simp only [Option.some.injEq, Prod.mk.injEq] at H
        obtain ⟨rfl, rfl⟩ := H
        go_wp2
        go_ret2
        exact ⟨by first | rfl | (simp [errW_none, errW_some] <;> rfl) | (simp [*, errW_none, errW_some] <;> rfl), by repeat (first | (with_reducible first | exact HB.out | apply below_alloc | apply pw_below_drewN | apply below_drew1) | exact HB.out)⟩

end Go.Proofs.Ytlhhibhcoefolaa.Q
