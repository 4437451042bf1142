-- Written by a program of this session (wip/tools/print2.sh), out of the translation, for this claim. Lean checks it.
import Derived.Test.YtlhhibhcoefolaaQx0
-- SQUEEZED
namespace Go.Proofs.Ytlhhibhcoefolaa.Q
open Go.RowKit Go.Proofs.YtlhhibhcoefolaaW.PrintWords Go.Proofs.YtlhhibhcoefolaaW.PrintLast Go.Proofs.YtlhhibhcoefolaaW.PrintMore
attribute [local go_sem] max2_int min2_int max_two min_two max_three min_three max_four min_four   -- for this text's walks alone
set_option linter.unusedVariables false
set_option linter.unusedSimpArgs false

/-! ### abridgerref1_goes: function 17 -/
def abridgerref1_goes.f (l0 : List Int) (a1 : Int) : Option (Bool) := if a1 ≥ (l0.length : Int) then (some false) else (if 0 ≤ a1 then (if a1 < (l0.length : Int) then (if (rd l0 a1) ≥ 97 then (if (rd l0 a1) ≤ 122 then (some true) else (if (rd l0 a1) ≥ 65 then (if (rd l0 a1) ≤ 90 then (some true) else (if (rd l0 a1) ≥ 48 then (if (rd l0 a1) ≤ 57 then (some true) else (if (rd l0 a1) = 46 then (some true) else (if (rd l0 a1) = 43 then (some true) else (if (rd l0 a1) = 45 then (some true) else (some ((rd l0 a1) == 95)))))) else (if (rd l0 a1) = 46 then (some true) else (if (rd l0 a1) = 43 then (some true) else (if (rd l0 a1) = 45 then (some true) else (some ((rd l0 a1) == 95))))))) else (if (rd l0 a1) ≥ 48 then (if (rd l0 a1) ≤ 57 then (some true) else (if (rd l0 a1) = 46 then (some true) else (if (rd l0 a1) = 43 then (some true) else (if (rd l0 a1) = 45 then (some true) else (some ((rd l0 a1) == 95)))))) else (if (rd l0 a1) = 46 then (some true) else (if (rd l0 a1) = 43 then (some true) else (if (rd l0 a1) = 45 then (some true) else (some ((rd l0 a1) == 95)))))))) else (if (rd l0 a1) ≥ 65 then (if (rd l0 a1) ≤ 90 then (some true) else (if (rd l0 a1) ≥ 48 then (if (rd l0 a1) ≤ 57 then (some true) else (if (rd l0 a1) = 46 then (some true) else (if (rd l0 a1) = 43 then (some true) else (if (rd l0 a1) = 45 then (some true) else (some ((rd l0 a1) == 95)))))) else (if (rd l0 a1) = 46 then (some true) else (if (rd l0 a1) = 43 then (some true) else (if (rd l0 a1) = 45 then (some true) else (some ((rd l0 a1) == 95))))))) else (if (rd l0 a1) ≥ 48 then (if (rd l0 a1) ≤ 57 then (some true) else (if (rd l0 a1) = 46 then (some true) else (if (rd l0 a1) = 43 then (some true) else (if (rd l0 a1) = 45 then (some true) else (some ((rd l0 a1) == 95)))))) else (if (rd l0 a1) = 46 then (some true) else (if (rd l0 a1) = 43 then (some true) else (if (rd l0 a1) = 45 then (some true) else (some ((rd l0 a1) == 95)))))))) else (none)) else (none))
set_option maxHeartbeats 8000000 in
set_option maxRecDepth 100000 in
theorem abridgerref1_goes.calls (A0 : Option Addr) (c0 : Nat) (l0 : List Int) (a1 : Int) (r : Bool) (w : World) (hr0 : Kd.C (Kd.int .u8) w A0 l0.length l0) (hc0 : l0.length ≤ c0) (h : abridgerref1_goes.f l0 a1 = some r) :
  Calls Try.prog 17 #[.slice A0 l0.length c0, .int .i64 a1] w fun e w' => e = .returned (.bool r) ∧ Drawn0 w w' := by
 have HR0 := Aside0.mk hr0
 have HC0 := Aside0.mk hc0
 clear hr0 hc0
 have H : (if a1 ≥ (l0.length : Int) then (some false) else (if 0 ≤ a1 then (if a1 < (l0.length : Int) then (if (rd l0 a1) ≥ 97 then (if (rd l0 a1) ≤ 122 then (some true) else (if (rd l0 a1) ≥ 65 then (if (rd l0 a1) ≤ 90 then (some true) else (if (rd l0 a1) ≥ 48 then (if (rd l0 a1) ≤ 57 then (some true) else (if (rd l0 a1) = 46 then (some true) else (if (rd l0 a1) = 43 then (some true) else (if (rd l0 a1) = 45 then (some true) else (some ((rd l0 a1) == 95)))))) else (if (rd l0 a1) = 46 then (some true) else (if (rd l0 a1) = 43 then (some true) else (if (rd l0 a1) = 45 then (some true) else (some ((rd l0 a1) == 95))))))) else (if (rd l0 a1) ≥ 48 then (if (rd l0 a1) ≤ 57 then (some true) else (if (rd l0 a1) = 46 then (some true) else (if (rd l0 a1) = 43 then (some true) else (if (rd l0 a1) = 45 then (some true) else (some ((rd l0 a1) == 95)))))) else (if (rd l0 a1) = 46 then (some true) else (if (rd l0 a1) = 43 then (some true) else (if (rd l0 a1) = 45 then (some true) else (some ((rd l0 a1) == 95)))))))) else (if (rd l0 a1) ≥ 65 then (if (rd l0 a1) ≤ 90 then (some true) else (if (rd l0 a1) ≥ 48 then (if (rd l0 a1) ≤ 57 then (some true) else (if (rd l0 a1) = 46 then (some true) else (if (rd l0 a1) = 43 then (some true) else (if (rd l0 a1) = 45 then (some true) else (some ((rd l0 a1) == 95)))))) else (if (rd l0 a1) = 46 then (some true) else (if (rd l0 a1) = 43 then (some true) else (if (rd l0 a1) = 45 then (some true) else (some ((rd l0 a1) == 95))))))) else (if (rd l0 a1) ≥ 48 then (if (rd l0 a1) ≤ 57 then (some true) else (if (rd l0 a1) = 46 then (some true) else (if (rd l0 a1) = 43 then (some true) else (if (rd l0 a1) = 45 then (some true) else (some ((rd l0 a1) == 95)))))) else (if (rd l0 a1) = 46 then (some true) else (if (rd l0 a1) = 43 then (some true) else (if (rd l0 a1) = 45 then (some true) else (some ((rd l0 a1) == 95)))))))) else (none)) else (none))) = some r := h
 clear h
 by_cases c3 : a1 ≥ (l0.length : Int)
 ·rw [if_pos c3] at H
  have c3b0 : decide ((l0.length : Int) ≤ a1) = true := decide_eq_true c3
  clear c3
  obtain rfl := Option.some.inj H
  go_enter Try.func17, Try.ntmps17
  go_wp2
  go_ret
  exact ⟨by first | rfl | (simp; done) | (simp [*]; done), by repeat (first | exact Drawn0.refl _ | apply Drawn0.step)⟩
 ·rw [if_neg c3] at H
  have c3b0 : decide ((l0.length : Int) ≤ a1) = false := decide_eq_false c3
  clear c3
  by_cases c4 : 0 ≤ a1
  ·rw [if_pos c4] at H
   have c4b0 : decide (0 ≤ a1) = true := decide_eq_true c4
   clear c4
   by_cases c5 : a1 < (l0.length : Int)
   ·rw [if_pos c5] at H
    have c5b0 : decide (a1 < (l0.length : Int)) = true := decide_eq_true c5
    clear c5
    by_cases c6 : (rd l0 a1) ≥ 97
    ·rw [if_pos c6] at H
     have c6b0 : decide (97 ≤ (rd l0 a1)) = true := decide_eq_true c6
     clear c6
     by_cases c7 : (rd l0 a1) ≤ 122
     ·rw [if_pos c7] at H
      have c7b0 : decide ((rd l0 a1) ≤ 122) = true := decide_eq_true c7
      clear c7
      obtain rfl := Option.some.inj H
      have p205 : 0 ≤ (a1 : Int) := of_decide_eq_true (by first | (with_reducible assumption) | assumption)
      have q205 : a1 < (l0.length : Int) := of_decide_eq_true (by first | (with_reducible assumption) | assumption)
      obtain ⟨ad205, e205, hx205_0⟩ := Kd.at_int HR0.out a1 p205 q205
      cases e205
      replace p205 := eq_true p205
      replace q205 := eq_true q205
      go_enter Try.func17, Try.ntmps17
      go_wp2
      go_ret
      exact ⟨by first | rfl | (simp; done) | (simp [*]; done), by repeat (first | exact Drawn0.refl _ | apply Drawn0.step)⟩
     ·rw [if_neg c7] at H
      have c7b0 : decide ((rd l0 a1) ≤ 122) = false := decide_eq_false c7
      clear c7
      by_cases c8 : (rd l0 a1) ≥ 65
      ·rw [if_pos c8] at H
       have c8b0 : decide (65 ≤ (rd l0 a1)) = true := decide_eq_true c8
       clear c8
       by_cases c9 : (rd l0 a1) ≤ 90
       ·rw [if_pos c9] at H
        have c9b0 : decide ((rd l0 a1) ≤ 90) = true := decide_eq_true c9
        clear c9
        obtain rfl := Option.some.inj H
        have p205 : 0 ≤ (a1 : Int) := of_decide_eq_true (by first | (with_reducible assumption) | assumption)
        have q205 : a1 < (l0.length : Int) := of_decide_eq_true (by first | (with_reducible assumption) | assumption)
        obtain ⟨ad205, e205, hx205_0⟩ := Kd.at_int HR0.out a1 p205 q205
        cases e205
        replace p205 := eq_true p205
        replace q205 := eq_true q205
        go_enter Try.func17, Try.ntmps17
        go_wp2
        go_ret
        exact ⟨by first | rfl | (simp; done) | (simp [*]; done), by repeat (first | exact Drawn0.refl _ | apply Drawn0.step)⟩
       ·rw [if_neg c9] at H
        have c9b0 : decide ((rd l0 a1) ≤ 90) = false := decide_eq_false c9
        clear c9
        by_cases c10 : (rd l0 a1) ≥ 48
        ·rw [if_pos c10] at H
         have c10b0 : decide (48 ≤ (rd l0 a1)) = true := decide_eq_true c10
         clear c10
         by_cases c11 : (rd l0 a1) ≤ 57
         ·rw [if_pos c11] at H
          have c11b0 : decide ((rd l0 a1) ≤ 57) = true := decide_eq_true c11
          clear c11
          obtain rfl := Option.some.inj H
          have p205 : 0 ≤ (a1 : Int) := of_decide_eq_true (by first | (with_reducible assumption) | assumption)
          have q205 : a1 < (l0.length : Int) := of_decide_eq_true (by first | (with_reducible assumption) | assumption)
          obtain ⟨ad205, e205, hx205_0⟩ := Kd.at_int HR0.out a1 p205 q205
          cases e205
          replace p205 := eq_true p205
          replace q205 := eq_true q205
          go_enter Try.func17, Try.ntmps17
          go_wp2
          go_ret
          exact ⟨by first | rfl | (simp; done) | (simp [*]; done), by repeat (first | exact Drawn0.refl _ | apply Drawn0.step)⟩
         ·rw [if_neg c11] at H
          have c11b0 : decide ((rd l0 a1) ≤ 57) = false := decide_eq_false c11
          clear c11
          by_cases c12 : (rd l0 a1) = 46
          ·rw [if_pos c12] at H
           have c12b0 : ((rd l0 a1) == 46) = true := beq_iff_eq.mpr c12
           have c12b1 : ((rd l0 a1) != 46) = false := bne_eq_false_iff_eq.mpr c12
           clear c12
           obtain rfl := Option.some.inj H
           have p205 : 0 ≤ (a1 : Int) := of_decide_eq_true (by first | (with_reducible assumption) | assumption)
           have q205 : a1 < (l0.length : Int) := of_decide_eq_true (by first | (with_reducible assumption) | assumption)
           obtain ⟨ad205, e205, hx205_0⟩ := Kd.at_int HR0.out a1 p205 q205
           cases e205
           replace p205 := eq_true p205
           replace q205 := eq_true q205
           go_enter Try.func17, Try.ntmps17
           go_wp2
           go_ret
           exact ⟨by first | rfl | (simp; done) | (simp [*]; done), by repeat (first | exact Drawn0.refl _ | apply Drawn0.step)⟩
          ·rw [if_neg c12] at H
           have c12b0 : ((rd l0 a1) == 46) = false := beq_eq_false_iff_ne.mpr c12
           have c12b1 : ((rd l0 a1) != 46) = true := bne_iff_ne.mpr c12
           by_cases c13 : (rd l0 a1) = 43
           ·rw [if_pos c13] at H
            have c13b0 : ((rd l0 a1) == 43) = true := beq_iff_eq.mpr c13
            have c13b1 : ((rd l0 a1) != 43) = false := bne_eq_false_iff_eq.mpr c13
            clear c13
            obtain rfl := Option.some.inj H
            have p205 : 0 ≤ (a1 : Int) := of_decide_eq_true (by first | (with_reducible assumption) | assumption)
            have q205 : a1 < (l0.length : Int) := of_decide_eq_true (by first | (with_reducible assumption) | assumption)
            obtain ⟨ad205, e205, hx205_0⟩ := Kd.at_int HR0.out a1 p205 q205
            cases e205
            replace p205 := eq_true p205
            replace q205 := eq_true q205
            go_enter Try.func17, Try.ntmps17
            go_wp2
            go_ret
            exact ⟨by first | rfl | (simp; done) | (simp [*]; done), by repeat (first | exact Drawn0.refl _ | apply Drawn0.step)⟩
           ·rw [if_neg c13] at H
            have c13b0 : ((rd l0 a1) == 43) = false := beq_eq_false_iff_ne.mpr c13
            have c13b1 : ((rd l0 a1) != 43) = true := bne_iff_ne.mpr c13
            by_cases c14 : (rd l0 a1) = 45
            ·rw [if_pos c14] at H
             have c14b0 : ((rd l0 a1) == 45) = true := beq_iff_eq.mpr c14
             have c14b1 : ((rd l0 a1) != 45) = false := bne_eq_false_iff_eq.mpr c14
             clear c14
             obtain rfl := Option.some.inj H
             have p205 : 0 ≤ (a1 : Int) := of_decide_eq_true (by first | (with_reducible assumption) | assumption)
             have q205 : a1 < (l0.length : Int) := of_decide_eq_true (by first | (with_reducible assumption) | assumption)
             obtain ⟨ad205, e205, hx205_0⟩ := Kd.at_int HR0.out a1 p205 q205
             cases e205
             replace p205 := eq_true p205
             replace q205 := eq_true q205
             go_enter Try.func17, Try.ntmps17
             go_wp2
             go_ret
             exact ⟨by first | rfl | (simp; done) | (simp [*]; done), by repeat (first | exact Drawn0.refl _ | apply Drawn0.step)⟩
            ·rw [if_neg c14] at H
             have c14b0 : ((rd l0 a1) == 45) = false := beq_eq_false_iff_ne.mpr c14
             have c14b1 : ((rd l0 a1) != 45) = true := bne_iff_ne.mpr c14
             obtain rfl := Option.some.inj H
             have p205 : 0 ≤ (a1 : Int) := of_decide_eq_true (by first | (with_reducible assumption) | assumption)
             have q205 : a1 < (l0.length : Int) := of_decide_eq_true (by first | (with_reducible assumption) | assumption)
             obtain ⟨ad205, e205, hx205_0⟩ := Kd.at_int HR0.out a1 p205 q205
             cases e205
             replace p205 := eq_true p205
             replace q205 := eq_true q205
             go_enter Try.func17, Try.ntmps17
             go_wp2
             go_ret
             exact ⟨by first | rfl | (simp; done) | (simp [*]; done), by repeat (first | exact Drawn0.refl _ | apply Drawn0.step)⟩
        ·rw [if_neg c10] at H
         have c10b0 : decide (48 ≤ (rd l0 a1)) = false := decide_eq_false c10
         clear c10
         by_cases c15 : (rd l0 a1) = 46
         ·rw [if_pos c15] at H
          have c15b0 : ((rd l0 a1) == 46) = true := beq_iff_eq.mpr c15
          have c15b1 : ((rd l0 a1) != 46) = false := bne_eq_false_iff_eq.mpr c15
          clear c15
          obtain rfl := Option.some.inj H
          have p205 : 0 ≤ (a1 : Int) := of_decide_eq_true (by first | (with_reducible assumption) | assumption)
          have q205 : a1 < (l0.length : Int) := of_decide_eq_true (by first | (with_reducible assumption) | assumption)
          obtain ⟨ad205, e205, hx205_0⟩ := Kd.at_int HR0.out a1 p205 q205
          cases e205
          replace p205 := eq_true p205
          replace q205 := eq_true q205
          go_enter Try.func17, Try.ntmps17
          go_wp2
          go_ret
          exact ⟨by first | rfl | (simp; done) | (simp [*]; done), by repeat (first | exact Drawn0.refl _ | apply Drawn0.step)⟩
         ·rw [if_neg c15] at H
          have c15b0 : ((rd l0 a1) == 46) = false := beq_eq_false_iff_ne.mpr c15
          have c15b1 : ((rd l0 a1) != 46) = true := bne_iff_ne.mpr c15
          by_cases c16 : (rd l0 a1) = 43
          ·rw [if_pos c16] at H
           have c16b0 : ((rd l0 a1) == 43) = true := beq_iff_eq.mpr c16
           have c16b1 : ((rd l0 a1) != 43) = false := bne_eq_false_iff_eq.mpr c16
           clear c16
           obtain rfl := Option.some.inj H
           have p205 : 0 ≤ (a1 : Int) := of_decide_eq_true (by first | (with_reducible assumption) | assumption)
           have q205 : a1 < (l0.length : Int) := of_decide_eq_true (by first | (with_reducible assumption) | assumption)
           obtain ⟨ad205, e205, hx205_0⟩ := Kd.at_int HR0.out a1 p205 q205
           cases e205
           replace p205 := eq_true p205
           replace q205 := eq_true q205
           go_enter Try.func17, Try.ntmps17
           go_wp2
           go_ret
           exact ⟨by first | rfl | (simp; done) | (simp [*]; done), by repeat (first | exact Drawn0.refl _ | apply Drawn0.step)⟩
          ·rw [if_neg c16] at H
           have c16b0 : ((rd l0 a1) == 43) = false := beq_eq_false_iff_ne.mpr c16
           have c16b1 : ((rd l0 a1) != 43) = true := bne_iff_ne.mpr c16
           by_cases c17 : (rd l0 a1) = 45
           ·rw [if_pos c17] at H
            have c17b0 : ((rd l0 a1) == 45) = true := beq_iff_eq.mpr c17
            have c17b1 : ((rd l0 a1) != 45) = false := bne_eq_false_iff_eq.mpr c17
            clear c17
            obtain rfl := Option.some.inj H
            have p205 : 0 ≤ (a1 : Int) := of_decide_eq_true (by first | (with_reducible assumption) | assumption)
            have q205 : a1 < (l0.length : Int) := of_decide_eq_true (by first | (with_reducible assumption) | assumption)
            obtain ⟨ad205, e205, hx205_0⟩ := Kd.at_int HR0.out a1 p205 q205
            cases e205
            replace p205 := eq_true p205
            replace q205 := eq_true q205
            go_enter Try.func17, Try.ntmps17
            go_wp2
            go_ret
            exact ⟨by first | rfl | (simp; done) | (simp [*]; done), by repeat (first | exact Drawn0.refl _ | apply Drawn0.step)⟩
           ·rw [if_neg c17] at H
            have c17b0 : ((rd l0 a1) == 45) = false := beq_eq_false_iff_ne.mpr c17
            have c17b1 : ((rd l0 a1) != 45) = true := bne_iff_ne.mpr c17
            obtain rfl := Option.some.inj H
            have p205 : 0 ≤ (a1 : Int) := of_decide_eq_true (by first | (with_reducible assumption) | assumption)
            have q205 : a1 < (l0.length : Int) := of_decide_eq_true (by first | (with_reducible assumption) | assumption)
            obtain ⟨ad205, e205, hx205_0⟩ := Kd.at_int HR0.out a1 p205 q205
            cases e205
            replace p205 := eq_true p205
            replace q205 := eq_true q205
            go_enter Try.func17, Try.ntmps17
            go_wp2
            go_ret
            exact ⟨by first | rfl | (simp; done) | (simp [*]; done), by repeat (first | exact Drawn0.refl _ | apply Drawn0.step)⟩
      ·rw [if_neg c8] at H
       have c8b0 : decide (65 ≤ (rd l0 a1)) = false := decide_eq_false c8
       clear c8
       by_cases c18 : (rd l0 a1) ≥ 48
       ·rw [if_pos c18] at H
        have c18b0 : decide (48 ≤ (rd l0 a1)) = true := decide_eq_true c18
        clear c18
        by_cases c19 : (rd l0 a1) ≤ 57
        ·rw [if_pos c19] at H
         have c19b0 : decide ((rd l0 a1) ≤ 57) = true := decide_eq_true c19
         clear c19
         obtain rfl := Option.some.inj H
         have p205 : 0 ≤ (a1 : Int) := of_decide_eq_true (by first | (with_reducible assumption) | assumption)
         have q205 : a1 < (l0.length : Int) := of_decide_eq_true (by first | (with_reducible assumption) | assumption)
         obtain ⟨ad205, e205, hx205_0⟩ := Kd.at_int HR0.out a1 p205 q205
         cases e205
         replace p205 := eq_true p205
         replace q205 := eq_true q205
         go_enter Try.func17, Try.ntmps17
         go_wp2
         go_ret
         exact ⟨by first | rfl | (simp; done) | (simp [*]; done), by repeat (first | exact Drawn0.refl _ | apply Drawn0.step)⟩
        ·rw [if_neg c19] at H
         have c19b0 : decide ((rd l0 a1) ≤ 57) = false := decide_eq_false c19
         clear c19
         by_cases c20 : (rd l0 a1) = 46
         ·rw [if_pos c20] at H
          have c20b0 : ((rd l0 a1) == 46) = true := beq_iff_eq.mpr c20
          have c20b1 : ((rd l0 a1) != 46) = false := bne_eq_false_iff_eq.mpr c20
          clear c20
          obtain rfl := Option.some.inj H
          have p205 : 0 ≤ (a1 : Int) := of_decide_eq_true (by first | (with_reducible assumption) | assumption)
          have q205 : a1 < (l0.length : Int) := of_decide_eq_true (by first | (with_reducible assumption) | assumption)
          obtain ⟨ad205, e205, hx205_0⟩ := Kd.at_int HR0.out a1 p205 q205
          cases e205
          replace p205 := eq_true p205
          replace q205 := eq_true q205
          go_enter Try.func17, Try.ntmps17
          go_wp2
          go_ret
          exact ⟨by first | rfl | (simp; done) | (simp [*]; done), by repeat (first | exact Drawn0.refl _ | apply Drawn0.step)⟩
         ·rw [if_neg c20] at H
          have c20b0 : ((rd l0 a1) == 46) = false := beq_eq_false_iff_ne.mpr c20
          have c20b1 : ((rd l0 a1) != 46) = true := bne_iff_ne.mpr c20
          by_cases c21 : (rd l0 a1) = 43
          ·rw [if_pos c21] at H
           have c21b0 : ((rd l0 a1) == 43) = true := beq_iff_eq.mpr c21
           have c21b1 : ((rd l0 a1) != 43) = false := bne_eq_false_iff_eq.mpr c21
           clear c21
           obtain rfl := Option.some.inj H
           have p205 : 0 ≤ (a1 : Int) := of_decide_eq_true (by first | (with_reducible assumption) | assumption)
           have q205 : a1 < (l0.length : Int) := of_decide_eq_true (by first | (with_reducible assumption) | assumption)
           obtain ⟨ad205, e205, hx205_0⟩ := Kd.at_int HR0.out a1 p205 q205
           cases e205
           replace p205 := eq_true p205
           replace q205 := eq_true q205
           go_enter Try.func17, Try.ntmps17
           go_wp2
           go_ret
           exact ⟨by first | rfl | (simp; done) | (simp [*]; done), by repeat (first | exact Drawn0.refl _ | apply Drawn0.step)⟩
          ·rw [if_neg c21] at H
           have c21b0 : ((rd l0 a1) == 43) = false := beq_eq_false_iff_ne.mpr c21
           have c21b1 : ((rd l0 a1) != 43) = true := bne_iff_ne.mpr c21
           by_cases c22 : (rd l0 a1) = 45
           ·rw [if_pos c22] at H
            have c22b0 : ((rd l0 a1) == 45) = true := beq_iff_eq.mpr c22
            have c22b1 : ((rd l0 a1) != 45) = false := bne_eq_false_iff_eq.mpr c22
            clear c22
            obtain rfl := Option.some.inj H
            have p205 : 0 ≤ (a1 : Int) := of_decide_eq_true (by first | (with_reducible assumption) | assumption)
            have q205 : a1 < (l0.length : Int) := of_decide_eq_true (by first | (with_reducible assumption) | assumption)
            obtain ⟨ad205, e205, hx205_0⟩ := Kd.at_int HR0.out a1 p205 q205
            cases e205
            replace p205 := eq_true p205
            replace q205 := eq_true q205
            go_enter Try.func17, Try.ntmps17
            go_wp2
            go_ret
            exact ⟨by first | rfl | (simp; done) | (simp [*]; done), by repeat (first | exact Drawn0.refl _ | apply Drawn0.step)⟩
           ·rw [if_neg c22] at H
            have c22b0 : ((rd l0 a1) == 45) = false := beq_eq_false_iff_ne.mpr c22
            have c22b1 : ((rd l0 a1) != 45) = true := bne_iff_ne.mpr c22
            obtain rfl := Option.some.inj H
            have p205 : 0 ≤ (a1 : Int) := of_decide_eq_true (by first | (with_reducible assumption) | assumption)
            have q205 : a1 < (l0.length : Int) := of_decide_eq_true (by first | (with_reducible assumption) | assumption)
            obtain ⟨ad205, e205, hx205_0⟩ := Kd.at_int HR0.out a1 p205 q205
            cases e205
            replace p205 := eq_true p205
            replace q205 := eq_true q205
            go_enter Try.func17, Try.ntmps17
            go_wp2
            go_ret
            exact ⟨by first | rfl | (simp; done) | (simp [*]; done), by repeat (first | exact Drawn0.refl _ | apply Drawn0.step)⟩
       ·rw [if_neg c18] at H
        have c18b0 : decide (48 ≤ (rd l0 a1)) = false := decide_eq_false c18
        clear c18
        by_cases c23 : (rd l0 a1) = 46
        ·rw [if_pos c23] at H
         have c23b0 : ((rd l0 a1) == 46) = true := beq_iff_eq.mpr c23
         have c23b1 : ((rd l0 a1) != 46) = false := bne_eq_false_iff_eq.mpr c23
         clear c23
         obtain rfl := Option.some.inj H
         have p205 : 0 ≤ (a1 : Int) := of_decide_eq_true (by first | (with_reducible assumption) | assumption)
         have q205 : a1 < (l0.length : Int) := of_decide_eq_true (by first | (with_reducible assumption) | assumption)
         obtain ⟨ad205, e205, hx205_0⟩ := Kd.at_int HR0.out a1 p205 q205
         cases e205
         replace p205 := eq_true p205
         replace q205 := eq_true q205
         go_enter Try.func17, Try.ntmps17
         go_wp2
         go_ret
         exact ⟨by first | rfl | (simp; done) | (simp [*]; done), by repeat (first | exact Drawn0.refl _ | apply Drawn0.step)⟩
        ·rw [if_neg c23] at H
         have c23b0 : ((rd l0 a1) == 46) = false := beq_eq_false_iff_ne.mpr c23
         have c23b1 : ((rd l0 a1) != 46) = true := bne_iff_ne.mpr c23
         by_cases c24 : (rd l0 a1) = 43
         ·rw [if_pos c24] at H
          have c24b0 : ((rd l0 a1) == 43) = true := beq_iff_eq.mpr c24
          have c24b1 : ((rd l0 a1) != 43) = false := bne_eq_false_iff_eq.mpr c24
          clear c24
          obtain rfl := Option.some.inj H
          have p205 : 0 ≤ (a1 : Int) := of_decide_eq_true (by first | (with_reducible assumption) | assumption)
          have q205 : a1 < (l0.length : Int) := of_decide_eq_true (by first | (with_reducible assumption) | assumption)
          obtain ⟨ad205, e205, hx205_0⟩ := Kd.at_int HR0.out a1 p205 q205
          cases e205
          replace p205 := eq_true p205
          replace q205 := eq_true q205
          go_enter Try.func17, Try.ntmps17
          go_wp2
          go_ret
          exact ⟨by first | rfl | (simp; done) | (simp [*]; done), by repeat (first | exact Drawn0.refl _ | apply Drawn0.step)⟩
         ·rw [if_neg c24] at H
          have c24b0 : ((rd l0 a1) == 43) = false := beq_eq_false_iff_ne.mpr c24
          have c24b1 : ((rd l0 a1) != 43) = true := bne_iff_ne.mpr c24
          by_cases c25 : (rd l0 a1) = 45
          ·rw [if_pos c25] at H
           have c25b0 : ((rd l0 a1) == 45) = true := beq_iff_eq.mpr c25
           have c25b1 : ((rd l0 a1) != 45) = false := bne_eq_false_iff_eq.mpr c25
           clear c25
           obtain rfl := Option.some.inj H
           have p205 : 0 ≤ (a1 : Int) := of_decide_eq_true (by first | (with_reducible assumption) | assumption)
           have q205 : a1 < (l0.length : Int) := of_decide_eq_true (by first | (with_reducible assumption) | assumption)
           obtain ⟨ad205, e205, hx205_0⟩ := Kd.at_int HR0.out a1 p205 q205
           cases e205
           replace p205 := eq_true p205
           replace q205 := eq_true q205
           go_enter Try.func17, Try.ntmps17
           go_wp2
           go_ret
           exact ⟨by first | rfl | (simp; done) | (simp [*]; done), by repeat (first | exact Drawn0.refl _ | apply Drawn0.step)⟩
          ·rw [if_neg c25] at H
           have c25b0 : ((rd l0 a1) == 45) = false := beq_eq_false_iff_ne.mpr c25
           have c25b1 : ((rd l0 a1) != 45) = true := bne_iff_ne.mpr c25
           obtain rfl := Option.some.inj H
           have p205 : 0 ≤ (a1 : Int) := of_decide_eq_true (by first | (with_reducible assumption) | assumption)
           have q205 : a1 < (l0.length : Int) := of_decide_eq_true (by first | (with_reducible assumption) | assumption)
           obtain ⟨ad205, e205, hx205_0⟩ := Kd.at_int HR0.out a1 p205 q205
           cases e205
           replace p205 := eq_true p205
           replace q205 := eq_true q205
           go_enter Try.func17, Try.ntmps17
           go_wp2
           go_ret
           exact ⟨by first | rfl | (simp; done) | (simp [*]; done), by repeat (first | exact Drawn0.refl _ | apply Drawn0.step)⟩
    ·rw [if_neg c6] at H
     have c6b0 : decide (97 ≤ (rd l0 a1)) = false := decide_eq_false c6
     clear c6
     by_cases c26 : (rd l0 a1) ≥ 65
     ·rw [if_pos c26] at H
      have c26b0 : decide (65 ≤ (rd l0 a1)) = true := decide_eq_true c26
      clear c26
      by_cases c27 : (rd l0 a1) ≤ 90
      ·rw [if_pos c27] at H
       have c27b0 : decide ((rd l0 a1) ≤ 90) = true := decide_eq_true c27
       clear c27
       obtain rfl := Option.some.inj H
       have p205 : 0 ≤ (a1 : Int) := of_decide_eq_true (by first | (with_reducible assumption) | assumption)
       have q205 : a1 < (l0.length : Int) := of_decide_eq_true (by first | (with_reducible assumption) | assumption)
       obtain ⟨ad205, e205, hx205_0⟩ := Kd.at_int HR0.out a1 p205 q205
       cases e205
       replace p205 := eq_true p205
       replace q205 := eq_true q205
       go_enter Try.func17, Try.ntmps17
       go_wp2
       go_ret
       exact ⟨by first | rfl | (simp; done) | (simp [*]; done), by repeat (first | exact Drawn0.refl _ | apply Drawn0.step)⟩
      ·rw [if_neg c27] at H
       have c27b0 : decide ((rd l0 a1) ≤ 90) = false := decide_eq_false c27
       clear c27
       by_cases c28 : (rd l0 a1) ≥ 48
       ·rw [if_pos c28] at H
        have c28b0 : decide (48 ≤ (rd l0 a1)) = true := decide_eq_true c28
        clear c28
        by_cases c29 : (rd l0 a1) ≤ 57
        ·rw [if_pos c29] at H
         have c29b0 : decide ((rd l0 a1) ≤ 57) = true := decide_eq_true c29
         clear c29
         obtain rfl := Option.some.inj H
         have p205 : 0 ≤ (a1 : Int) := of_decide_eq_true (by first | (with_reducible assumption) | assumption)
         have q205 : a1 < (l0.length : Int) := of_decide_eq_true (by first | (with_reducible assumption) | assumption)
         obtain ⟨ad205, e205, hx205_0⟩ := Kd.at_int HR0.out a1 p205 q205
         cases e205
         replace p205 := eq_true p205
         replace q205 := eq_true q205
         go_enter Try.func17, Try.ntmps17
         go_wp2
         go_ret
         exact ⟨by first | rfl | (simp; done) | (simp [*]; done), by repeat (first | exact Drawn0.refl _ | apply Drawn0.step)⟩
        ·rw [if_neg c29] at H
         have c29b0 : decide ((rd l0 a1) ≤ 57) = false := decide_eq_false c29
         clear c29
         by_cases c30 : (rd l0 a1) = 46
         ·rw [if_pos c30] at H
          have c30b0 : ((rd l0 a1) == 46) = true := beq_iff_eq.mpr c30
          have c30b1 : ((rd l0 a1) != 46) = false := bne_eq_false_iff_eq.mpr c30
          clear c30
          obtain rfl := Option.some.inj H
          have p205 : 0 ≤ (a1 : Int) := of_decide_eq_true (by first | (with_reducible assumption) | assumption)
          have q205 : a1 < (l0.length : Int) := of_decide_eq_true (by first | (with_reducible assumption) | assumption)
          obtain ⟨ad205, e205, hx205_0⟩ := Kd.at_int HR0.out a1 p205 q205
          cases e205
          replace p205 := eq_true p205
          replace q205 := eq_true q205
          go_enter Try.func17, Try.ntmps17
          go_wp2
          go_ret
          exact ⟨by first | rfl | (simp; done) | (simp [*]; done), by repeat (first | exact Drawn0.refl _ | apply Drawn0.step)⟩
         ·rw [if_neg c30] at H
          have c30b0 : ((rd l0 a1) == 46) = false := beq_eq_false_iff_ne.mpr c30
          have c30b1 : ((rd l0 a1) != 46) = true := bne_iff_ne.mpr c30
          by_cases c31 : (rd l0 a1) = 43
          ·rw [if_pos c31] at H
           have c31b0 : ((rd l0 a1) == 43) = true := beq_iff_eq.mpr c31
           have c31b1 : ((rd l0 a1) != 43) = false := bne_eq_false_iff_eq.mpr c31
           clear c31
           obtain rfl := Option.some.inj H
           have p205 : 0 ≤ (a1 : Int) := of_decide_eq_true (by first | (with_reducible assumption) | assumption)
           have q205 : a1 < (l0.length : Int) := of_decide_eq_true (by first | (with_reducible assumption) | assumption)
           obtain ⟨ad205, e205, hx205_0⟩ := Kd.at_int HR0.out a1 p205 q205
           cases e205
           replace p205 := eq_true p205
           replace q205 := eq_true q205
           go_enter Try.func17, Try.ntmps17
           go_wp2
           go_ret
           exact ⟨by first | rfl | (simp; done) | (simp [*]; done), by repeat (first | exact Drawn0.refl _ | apply Drawn0.step)⟩
          ·rw [if_neg c31] at H
           have c31b0 : ((rd l0 a1) == 43) = false := beq_eq_false_iff_ne.mpr c31
           have c31b1 : ((rd l0 a1) != 43) = true := bne_iff_ne.mpr c31
           by_cases c32 : (rd l0 a1) = 45
           ·rw [if_pos c32] at H
            have c32b0 : ((rd l0 a1) == 45) = true := beq_iff_eq.mpr c32
            have c32b1 : ((rd l0 a1) != 45) = false := bne_eq_false_iff_eq.mpr c32
            clear c32
            obtain rfl := Option.some.inj H
            have p205 : 0 ≤ (a1 : Int) := of_decide_eq_true (by first | (with_reducible assumption) | assumption)
            have q205 : a1 < (l0.length : Int) := of_decide_eq_true (by first | (with_reducible assumption) | assumption)
            obtain ⟨ad205, e205, hx205_0⟩ := Kd.at_int HR0.out a1 p205 q205
            cases e205
            replace p205 := eq_true p205
            replace q205 := eq_true q205
            go_enter Try.func17, Try.ntmps17
            go_wp2
            go_ret
            exact ⟨by first | rfl | (simp; done) | (simp [*]; done), by repeat (first | exact Drawn0.refl _ | apply Drawn0.step)⟩
           ·rw [if_neg c32] at H
            have c32b0 : ((rd l0 a1) == 45) = false := beq_eq_false_iff_ne.mpr c32
            have c32b1 : ((rd l0 a1) != 45) = true := bne_iff_ne.mpr c32
            obtain rfl := Option.some.inj H
            have p205 : 0 ≤ (a1 : Int) := of_decide_eq_true (by first | (with_reducible assumption) | assumption)
            have q205 : a1 < (l0.length : Int) := of_decide_eq_true (by first | (with_reducible assumption) | assumption)
            obtain ⟨ad205, e205, hx205_0⟩ := Kd.at_int HR0.out a1 p205 q205
            cases e205
            replace p205 := eq_true p205
            replace q205 := eq_true q205
            go_enter Try.func17, Try.ntmps17
            go_wp2
            go_ret
            exact ⟨by first | rfl | (simp; done) | (simp [*]; done), by repeat (first | exact Drawn0.refl _ | apply Drawn0.step)⟩
       ·rw [if_neg c28] at H
        have c28b0 : decide (48 ≤ (rd l0 a1)) = false := decide_eq_false c28
        clear c28
        by_cases c33 : (rd l0 a1) = 46
        ·rw [if_pos c33] at H
         have c33b0 : ((rd l0 a1) == 46) = true := beq_iff_eq.mpr c33
         have c33b1 : ((rd l0 a1) != 46) = false := bne_eq_false_iff_eq.mpr c33
         clear c33
         obtain rfl := Option.some.inj H
         have p205 : 0 ≤ (a1 : Int) := of_decide_eq_true (by first | (with_reducible assumption) | assumption)
         have q205 : a1 < (l0.length : Int) := of_decide_eq_true (by first | (with_reducible assumption) | assumption)
         obtain ⟨ad205, e205, hx205_0⟩ := Kd.at_int HR0.out a1 p205 q205
         cases e205
         replace p205 := eq_true p205
         replace q205 := eq_true q205
         go_enter Try.func17, Try.ntmps17
         go_wp2
         go_ret
         exact ⟨by first | rfl | (simp; done) | (simp [*]; done), by repeat (first | exact Drawn0.refl _ | apply Drawn0.step)⟩
        ·rw [if_neg c33] at H
         have c33b0 : ((rd l0 a1) == 46) = false := beq_eq_false_iff_ne.mpr c33
         have c33b1 : ((rd l0 a1) != 46) = true := bne_iff_ne.mpr c33
         by_cases c34 : (rd l0 a1) = 43
         ·rw [if_pos c34] at H
          have c34b0 : ((rd l0 a1) == 43) = true := beq_iff_eq.mpr c34
          have c34b1 : ((rd l0 a1) != 43) = false := bne_eq_false_iff_eq.mpr c34
          clear c34
          obtain rfl := Option.some.inj H
          have p205 : 0 ≤ (a1 : Int) := of_decide_eq_true (by first | (with_reducible assumption) | assumption)
          have q205 : a1 < (l0.length : Int) := of_decide_eq_true (by first | (with_reducible assumption) | assumption)
          obtain ⟨ad205, e205, hx205_0⟩ := Kd.at_int HR0.out a1 p205 q205
          cases e205
          replace p205 := eq_true p205
          replace q205 := eq_true q205
          go_enter Try.func17, Try.ntmps17
          go_wp2
          go_ret
          exact ⟨by first | rfl | (simp; done) | (simp [*]; done), by repeat (first | exact Drawn0.refl _ | apply Drawn0.step)⟩
         ·rw [if_neg c34] at H
          have c34b0 : ((rd l0 a1) == 43) = false := beq_eq_false_iff_ne.mpr c34
          have c34b1 : ((rd l0 a1) != 43) = true := bne_iff_ne.mpr c34
          by_cases c35 : (rd l0 a1) = 45
          ·rw [if_pos c35] at H
           have c35b0 : ((rd l0 a1) == 45) = true := beq_iff_eq.mpr c35
           have c35b1 : ((rd l0 a1) != 45) = false := bne_eq_false_iff_eq.mpr c35
           clear c35
           obtain rfl := Option.some.inj H
           have p205 : 0 ≤ (a1 : Int) := of_decide_eq_true (by first | (with_reducible assumption) | assumption)
           have q205 : a1 < (l0.length : Int) := of_decide_eq_true (by first | (with_reducible assumption) | assumption)
           obtain ⟨ad205, e205, hx205_0⟩ := Kd.at_int HR0.out a1 p205 q205
           cases e205
           replace p205 := eq_true p205
           replace q205 := eq_true q205
           go_enter Try.func17, Try.ntmps17
           go_wp2
           go_ret
           exact ⟨by first | rfl | (simp; done) | (simp [*]; done), by repeat (first | exact Drawn0.refl _ | apply Drawn0.step)⟩
          ·rw [if_neg c35] at H
           have c35b0 : ((rd l0 a1) == 45) = false := beq_eq_false_iff_ne.mpr c35
           have c35b1 : ((rd l0 a1) != 45) = true := bne_iff_ne.mpr c35
           obtain rfl := Option.some.inj H
           have p205 : 0 ≤ (a1 : Int) := of_decide_eq_true (by first | (with_reducible assumption) | assumption)
           have q205 : a1 < (l0.length : Int) := of_decide_eq_true (by first | (with_reducible assumption) | assumption)
           obtain ⟨ad205, e205, hx205_0⟩ := Kd.at_int HR0.out a1 p205 q205
           cases e205
           replace p205 := eq_true p205
           replace q205 := eq_true q205
           go_enter Try.func17, Try.ntmps17
           go_wp2
           go_ret
           exact ⟨by first | rfl | (simp; done) | (simp [*]; done), by repeat (first | exact Drawn0.refl _ | apply Drawn0.step)⟩
     ·rw [if_neg c26] at H
      have c26b0 : decide (65 ≤ (rd l0 a1)) = false := decide_eq_false c26
      clear c26
      by_cases c36 : (rd l0 a1) ≥ 48
      ·rw [if_pos c36] at H
       have c36b0 : decide (48 ≤ (rd l0 a1)) = true := decide_eq_true c36
       clear c36
       by_cases c37 : (rd l0 a1) ≤ 57
       ·rw [if_pos c37] at H
        have c37b0 : decide ((rd l0 a1) ≤ 57) = true := decide_eq_true c37
        clear c37
        obtain rfl := Option.some.inj H
        have p205 : 0 ≤ (a1 : Int) := of_decide_eq_true (by first | (with_reducible assumption) | assumption)
        have q205 : a1 < (l0.length : Int) := of_decide_eq_true (by first | (with_reducible assumption) | assumption)
        obtain ⟨ad205, e205, hx205_0⟩ := Kd.at_int HR0.out a1 p205 q205
        cases e205
        replace p205 := eq_true p205
        replace q205 := eq_true q205
        go_enter Try.func17, Try.ntmps17
        go_wp2
        go_ret
        exact ⟨by first | rfl | (simp; done) | (simp [*]; done), by repeat (first | exact Drawn0.refl _ | apply Drawn0.step)⟩
       ·rw [if_neg c37] at H
        have c37b0 : decide ((rd l0 a1) ≤ 57) = false := decide_eq_false c37
        clear c37
        by_cases c38 : (rd l0 a1) = 46
        ·rw [if_pos c38] at H
         have c38b0 : ((rd l0 a1) == 46) = true := beq_iff_eq.mpr c38
         have c38b1 : ((rd l0 a1) != 46) = false := bne_eq_false_iff_eq.mpr c38
         clear c38
         obtain rfl := Option.some.inj H
         have p205 : 0 ≤ (a1 : Int) := of_decide_eq_true (by first | (with_reducible assumption) | assumption)
         have q205 : a1 < (l0.length : Int) := of_decide_eq_true (by first | (with_reducible assumption) | assumption)
         obtain ⟨ad205, e205, hx205_0⟩ := Kd.at_int HR0.out a1 p205 q205
         cases e205
         replace p205 := eq_true p205
         replace q205 := eq_true q205
         go_enter Try.func17, Try.ntmps17
         go_wp2
         go_ret
         exact ⟨by first | rfl | (simp; done) | (simp [*]; done), by repeat (first | exact Drawn0.refl _ | apply Drawn0.step)⟩
        ·rw [if_neg c38] at H
         have c38b0 : ((rd l0 a1) == 46) = false := beq_eq_false_iff_ne.mpr c38
         have c38b1 : ((rd l0 a1) != 46) = true := bne_iff_ne.mpr c38
         by_cases c39 : (rd l0 a1) = 43
         ·rw [if_pos c39] at H
          have c39b0 : ((rd l0 a1) == 43) = true := beq_iff_eq.mpr c39
          have c39b1 : ((rd l0 a1) != 43) = false := bne_eq_false_iff_eq.mpr c39
          clear c39
          obtain rfl := Option.some.inj H
          have p205 : 0 ≤ (a1 : Int) := of_decide_eq_true (by first | (with_reducible assumption) | assumption)
          have q205 : a1 < (l0.length : Int) := of_decide_eq_true (by first | (with_reducible assumption) | assumption)
          obtain ⟨ad205, e205, hx205_0⟩ := Kd.at_int HR0.out a1 p205 q205
          cases e205
          replace p205 := eq_true p205
          replace q205 := eq_true q205
          go_enter Try.func17, Try.ntmps17
          go_wp2
          go_ret
          exact ⟨by first | rfl | (simp; done) | (simp [*]; done), by repeat (first | exact Drawn0.refl _ | apply Drawn0.step)⟩
         ·rw [if_neg c39] at H
          have c39b0 : ((rd l0 a1) == 43) = false := beq_eq_false_iff_ne.mpr c39
          have c39b1 : ((rd l0 a1) != 43) = true := bne_iff_ne.mpr c39
          by_cases c40 : (rd l0 a1) = 45
          ·rw [if_pos c40] at H
           have c40b0 : ((rd l0 a1) == 45) = true := beq_iff_eq.mpr c40
           have c40b1 : ((rd l0 a1) != 45) = false := bne_eq_false_iff_eq.mpr c40
           clear c40
           obtain rfl := Option.some.inj H
           have p205 : 0 ≤ (a1 : Int) := of_decide_eq_true (by first | (with_reducible assumption) | assumption)
           have q205 : a1 < (l0.length : Int) := of_decide_eq_true (by first | (with_reducible assumption) | assumption)
           obtain ⟨ad205, e205, hx205_0⟩ := Kd.at_int HR0.out a1 p205 q205
           cases e205
           replace p205 := eq_true p205
           replace q205 := eq_true q205
           go_enter Try.func17, Try.ntmps17
           go_wp2
           go_ret
           exact ⟨by first | rfl | (simp; done) | (simp [*]; done), by repeat (first | exact Drawn0.refl _ | apply Drawn0.step)⟩
          ·rw [if_neg c40] at H
           have c40b0 : ((rd l0 a1) == 45) = false := beq_eq_false_iff_ne.mpr c40
           have c40b1 : ((rd l0 a1) != 45) = true := bne_iff_ne.mpr c40
           obtain rfl := Option.some.inj H
           have p205 : 0 ≤ (a1 : Int) := of_decide_eq_true (by first | (with_reducible assumption) | assumption)
           have q205 : a1 < (l0.length : Int) := of_decide_eq_true (by first | (with_reducible assumption) | assumption)
           obtain ⟨ad205, e205, hx205_0⟩ := Kd.at_int HR0.out a1 p205 q205
           cases e205
           replace p205 := eq_true p205
           replace q205 := eq_true q205
           go_enter Try.func17, Try.ntmps17
           go_wp2
           go_ret
           exact ⟨by first | rfl | (simp; done) | (simp [*]; done), by repeat (first | exact Drawn0.refl _ | apply Drawn0.step)⟩
      ·rw [if_neg c36] at H
       have c36b0 : decide (48 ≤ (rd l0 a1)) = false := decide_eq_false c36
       clear c36
       by_cases c41 : (rd l0 a1) = 46
       ·rw [if_pos c41] at H
        have c41b0 : ((rd l0 a1) == 46) = true := beq_iff_eq.mpr c41
        have c41b1 : ((rd l0 a1) != 46) = false := bne_eq_false_iff_eq.mpr c41
        clear c41
        obtain rfl := Option.some.inj H
        have p205 : 0 ≤ (a1 : Int) := of_decide_eq_true (by first | (with_reducible assumption) | assumption)
        have q205 : a1 < (l0.length : Int) := of_decide_eq_true (by first | (with_reducible assumption) | assumption)
        obtain ⟨ad205, e205, hx205_0⟩ := Kd.at_int HR0.out a1 p205 q205
        cases e205
        replace p205 := eq_true p205
        replace q205 := eq_true q205
        go_enter Try.func17, Try.ntmps17
        go_wp2
        go_ret
        exact ⟨by first | rfl | (simp; done) | (simp [*]; done), by repeat (first | exact Drawn0.refl _ | apply Drawn0.step)⟩
       ·rw [if_neg c41] at H
        have c41b0 : ((rd l0 a1) == 46) = false := beq_eq_false_iff_ne.mpr c41
        have c41b1 : ((rd l0 a1) != 46) = true := bne_iff_ne.mpr c41
        by_cases c42 : (rd l0 a1) = 43
        ·rw [if_pos c42] at H
         have c42b0 : ((rd l0 a1) == 43) = true := beq_iff_eq.mpr c42
         have c42b1 : ((rd l0 a1) != 43) = false := bne_eq_false_iff_eq.mpr c42
         clear c42
         obtain rfl := Option.some.inj H
         have p205 : 0 ≤ (a1 : Int) := of_decide_eq_true (by first | (with_reducible assumption) | assumption)
         have q205 : a1 < (l0.length : Int) := of_decide_eq_true (by first | (with_reducible assumption) | assumption)
         obtain ⟨ad205, e205, hx205_0⟩ := Kd.at_int HR0.out a1 p205 q205
         cases e205
         replace p205 := eq_true p205
         replace q205 := eq_true q205
         go_enter Try.func17, Try.ntmps17
         go_wp2
         go_ret
         exact ⟨by first | rfl | (simp; done) | (simp [*]; done), by repeat (first | exact Drawn0.refl _ | apply Drawn0.step)⟩
        ·rw [if_neg c42] at H
         have c42b0 : ((rd l0 a1) == 43) = false := beq_eq_false_iff_ne.mpr c42
         have c42b1 : ((rd l0 a1) != 43) = true := bne_iff_ne.mpr c42
         by_cases c43 : (rd l0 a1) = 45
         ·rw [if_pos c43] at H
          have c43b0 : ((rd l0 a1) == 45) = true := beq_iff_eq.mpr c43
          have c43b1 : ((rd l0 a1) != 45) = false := bne_eq_false_iff_eq.mpr c43
          clear c43
          obtain rfl := Option.some.inj H
          have p205 : 0 ≤ (a1 : Int) := of_decide_eq_true (by first | (with_reducible assumption) | assumption)
          have q205 : a1 < (l0.length : Int) := of_decide_eq_true (by first | (with_reducible assumption) | assumption)
          obtain ⟨ad205, e205, hx205_0⟩ := Kd.at_int HR0.out a1 p205 q205
          cases e205
          replace p205 := eq_true p205
          replace q205 := eq_true q205
          go_enter Try.func17, Try.ntmps17
          go_wp2
          go_ret
          exact ⟨by first | rfl | (simp; done) | (simp [*]; done), by repeat (first | exact Drawn0.refl _ | apply Drawn0.step)⟩
         ·rw [if_neg c43] at H
          have c43b0 : ((rd l0 a1) == 45) = false := beq_eq_false_iff_ne.mpr c43
          have c43b1 : ((rd l0 a1) != 45) = true := bne_iff_ne.mpr c43
          obtain rfl := Option.some.inj H
          have p205 : 0 ≤ (a1 : Int) := of_decide_eq_true (by first | (with_reducible assumption) | assumption)
          have q205 : a1 < (l0.length : Int) := of_decide_eq_true (by first | (with_reducible assumption) | assumption)
          obtain ⟨ad205, e205, hx205_0⟩ := Kd.at_int HR0.out a1 p205 q205
          cases e205
          replace p205 := eq_true p205
          replace q205 := eq_true q205
          go_enter Try.func17, Try.ntmps17
          go_wp2
          go_ret
          exact ⟨by first | rfl | (simp; done) | (simp [*]; done), by repeat (first | exact Drawn0.refl _ | apply Drawn0.step)⟩
   ·rw [if_neg c5] at H
    exact absurd H (by simp)
  ·rw [if_neg c4] at H
   exact absurd H (by simp)

end Go.Proofs.Ytlhhibhcoefolaa.Q
