-- Written by a program of this session (wip/tools/print2.sh), out of the translation, for this claim. Lean checks it.
import Derived.Test.YtlhhibhcoefolaaQx0
import Derived.Test.YtlhhibhcoefolaaQx17
import Derived.Test.YtlhhibhcoefolaaQx20
-- SQUEEZED
namespace Go.Proofs.Ytlhhibhcoefolaa.Q
open Go.RowKit Go.Proofs.YtlhhibhcoefolaaW.PrintWords Go.Proofs.YtlhhibhcoefolaaW.PrintLast Go.Proofs.YtlhhibhcoefolaaW.PrintMore
attribute [local go_sem] max2_int min2_int max_two min_two max_three min_three max_four min_four   -- for this text's walks alone
set_option linter.unusedVariables false
set_option linter.unusedSimpArgs false

/-! ### abridgerref1_jnumber: function 19 -/
mutual
def abridgerref1_jnumber.j0 : Nat → List Int → ByteArray → Int → Bool → Option (Int)
 | 0, _, _, _, _ => none
 | k + 1, x0, x5, x6, x22 => if x22 = true then (abridgerref1_jnumber.j1 k x0 x5 (wrap64 (x6 + 1))) else (abridgerref1_jnumber.j1 k x0 x5 x6)
def abridgerref1_jnumber.j1 : Nat → List Int → ByteArray → Int → Option (Int)
 | 0, _, _, _ => none
 | k + 1, x0, x5, x6 => (abridgerref1_run.f k x5 x6).bind fun t213 => (if t213 = x6 then (abridgerref1_jnumber.j2 k x0 x5 t213 true) else (if 0 ≤ x6 then (if x6 < (x5.size : Int) then (if (bt x5 x6) = 48 then (abridgerref1_jnumber.j2 k x0 x5 t213 (decide (t213 > (wrap64 (x6 + 1))))) else (abridgerref1_jnumber.j2 k x0 x5 t213 false)) else (none)) else (none)))
def abridgerref1_jnumber.j2 : Nat → List Int → ByteArray → Int → Bool → Option (Int)
 | 0, _, _, _, _ => none
 | k + 1, x0, x5, x7, x42 => if x42 = true then (some (-1)) else (if x7 < (x5.size : Int) then (if 0 ≤ x7 then (abridgerref1_jnumber.j3 k x0 x5 x7 ((bt x5 x7) == 46)) else (none)) else (abridgerref1_jnumber.j3 k x0 x5 x7 false))
def abridgerref1_jnumber.j3 : Nat → List Int → ByteArray → Int → Bool → Option (Int)
 | 0, _, _, _, _ => none
 | k + 1, x0, x5, x7, x52 => if x52 = true then ((abridgerref1_run.f k x5 (wrap64 (x7 + 1))).bind fun t214 => (if t214 = (wrap64 (x7 + 1)) then (some (-1)) else (abridgerref1_jnumber.j4 k x0 x5 t214))) else (abridgerref1_jnumber.j4 k x0 x5 x7)
def abridgerref1_jnumber.j4 : Nat → List Int → ByteArray → Int → Option (Int)
 | 0, _, _, _ => none
 | k + 1, x0, x5, x7 => if x7 < (x5.size : Int) then (if 0 ≤ x7 then (if (bt x5 x7) = 101 then (abridgerref1_jnumber.j5 k x0 x5 x7 true) else (abridgerref1_jnumber.j5 k x0 x5 x7 ((bt x5 x7) == 69))) else (none)) else (abridgerref1_jnumber.j5 k x0 x5 x7 false)
def abridgerref1_jnumber.j5 : Nat → List Int → ByteArray → Int → Bool → Option (Int)
 | 0, _, _, _, _ => none
 | k + 1, x0, x5, x7, x77 => if x77 = true then (if (wrap64 (x7 + 1)) < (x5.size : Int) then (if 0 ≤ (wrap64 (x7 + 1)) then (if (bt x5 (wrap64 (x7 + 1))) = 43 then (abridgerref1_jnumber.j6 k x0 x5 (wrap64 (x7 + 1)) true) else (abridgerref1_jnumber.j6 k x0 x5 (wrap64 (x7 + 1)) ((bt x5 (wrap64 (x7 + 1))) == 45))) else (none)) else (abridgerref1_jnumber.j6 k x0 x5 (wrap64 (x7 + 1)) false)) else ((abridgerref1_goes.f x0 x7).bind fun t217 => (if t217 = true then (some (-1)) else (some x7)))
def abridgerref1_jnumber.j6 : Nat → List Int → ByteArray → Int → Bool → Option (Int)
 | 0, _, _, _, _ => none
 | k + 1, x0, x5, x9, x95 => if x95 = true then (abridgerref1_jnumber.j7 k x0 x5 (wrap64 (x9 + 1))) else (abridgerref1_jnumber.j7 k x0 x5 x9)
def abridgerref1_jnumber.j7 : Nat → List Int → ByteArray → Int → Option (Int)
 | 0, _, _, _ => none
 | k + 1, x0, x5, x9 => (abridgerref1_run.f k x5 x9).bind fun t215 => (if t215 = x9 then (some (-1)) else ((abridgerref1_goes.f x0 t215).bind fun t216 => (if t216 = true then (some (-1)) else (some t215))))
end
def abridgerref1_jnumber.f (k : Nat) (l0 : List Int) (a1 : Int) : Option (Int) := if a1 < ((strOfNums l0).size : Int) then (if 0 ≤ a1 then (abridgerref1_jnumber.j0 k l0 (strOfNums l0) a1 ((bt (strOfNums l0) a1) == 45)) else (none)) else (abridgerref1_jnumber.j0 k l0 (strOfNums l0) a1 false)
theorem abridgerref1_jnumber.mono_l : ∀ k, (∀ y0 y1 y2 y3, LeO (abridgerref1_jnumber.j0 k y0 y1 y2 y3) (abridgerref1_jnumber.j0 (k + 1) y0 y1 y2 y3)) ∧ (∀ y0 y1 y2, LeO (abridgerref1_jnumber.j1 k y0 y1 y2) (abridgerref1_jnumber.j1 (k + 1) y0 y1 y2)) ∧ (∀ y0 y1 y2 y3, LeO (abridgerref1_jnumber.j2 k y0 y1 y2 y3) (abridgerref1_jnumber.j2 (k + 1) y0 y1 y2 y3)) ∧ (∀ y0 y1 y2 y3, LeO (abridgerref1_jnumber.j3 k y0 y1 y2 y3) (abridgerref1_jnumber.j3 (k + 1) y0 y1 y2 y3)) ∧ (∀ y0 y1 y2, LeO (abridgerref1_jnumber.j4 k y0 y1 y2) (abridgerref1_jnumber.j4 (k + 1) y0 y1 y2)) ∧ (∀ y0 y1 y2 y3, LeO (abridgerref1_jnumber.j5 k y0 y1 y2 y3) (abridgerref1_jnumber.j5 (k + 1) y0 y1 y2 y3)) ∧ (∀ y0 y1 y2 y3, LeO (abridgerref1_jnumber.j6 k y0 y1 y2 y3) (abridgerref1_jnumber.j6 (k + 1) y0 y1 y2 y3)) ∧ (∀ y0 y1 y2, LeO (abridgerref1_jnumber.j7 k y0 y1 y2) (abridgerref1_jnumber.j7 (k + 1) y0 y1 y2))
 | 0 => ⟨fun _ _ _ _ r h => by simp [abridgerref1_jnumber.j0] at h, fun _ _ _ r h => by simp [abridgerref1_jnumber.j1] at h, fun _ _ _ _ r h => by simp [abridgerref1_jnumber.j2] at h, fun _ _ _ _ r h => by simp [abridgerref1_jnumber.j3] at h, fun _ _ _ r h => by simp [abridgerref1_jnumber.j4] at h, fun _ _ _ _ r h => by simp [abridgerref1_jnumber.j5] at h, fun _ _ _ _ r h => by simp [abridgerref1_jnumber.j6] at h, fun _ _ _ r h => by simp [abridgerref1_jnumber.j7] at h⟩
 | k + 1 => by
  obtain ⟨ih0, ih1, ih2, ih3, ih4, ih5, ih6, ih7⟩ := abridgerref1_jnumber.mono_l k
  refine ⟨?_, ?_, ?_, ?_, ?_, ?_, ?_, ?_⟩
  ·intro y0 y1 y2 y3
   unfold abridgerref1_jnumber.j0
   repeat' first
   | (with_reducible exact ih0 _ _ _ _)
   | (with_reducible exact ih1 _ _ _)
   | (with_reducible exact ih2 _ _ _ _)
   | (with_reducible exact ih3 _ _ _ _)
   | (with_reducible exact ih4 _ _ _)
   | (with_reducible exact ih5 _ _ _ _)
   | (with_reducible exact ih6 _ _ _ _)
   | (with_reducible exact ih7 _ _ _)
   | (with_reducible exact abridgerref1_run.mono _ _ _)
   | (with_reducible exact LeO.refl _)
   | (with_reducible exact LeO.none _)
   | (with_reducible refine LeO.ite ?_ ?_)
   | (with_reducible refine LeO.bind ?_ (fun _ => ?_))
   | exact ih0 _ _ _ _
   | exact ih1 _ _ _
   | exact ih2 _ _ _ _
   | exact ih3 _ _ _ _
   | exact ih4 _ _ _
   | exact ih5 _ _ _ _
   | exact ih6 _ _ _ _
   | exact ih7 _ _ _
   | exact abridgerref1_run.mono _ _ _
   | exact LeO.none _
   | refine LeO.ite ?_ ?_
   | refine LeO.bind ?_ (fun _ => ?_)
  ·intro y0 y1 y2
   unfold abridgerref1_jnumber.j1
   repeat' first
   | (with_reducible exact ih0 _ _ _ _)
   | (with_reducible exact ih1 _ _ _)
   | (with_reducible exact ih2 _ _ _ _)
   | (with_reducible exact ih3 _ _ _ _)
   | (with_reducible exact ih4 _ _ _)
   | (with_reducible exact ih5 _ _ _ _)
   | (with_reducible exact ih6 _ _ _ _)
   | (with_reducible exact ih7 _ _ _)
   | (with_reducible exact abridgerref1_run.mono _ _ _)
   | (with_reducible exact LeO.refl _)
   | (with_reducible exact LeO.none _)
   | (with_reducible refine LeO.ite ?_ ?_)
   | (with_reducible refine LeO.bind ?_ (fun _ => ?_))
   | exact ih0 _ _ _ _
   | exact ih1 _ _ _
   | exact ih2 _ _ _ _
   | exact ih3 _ _ _ _
   | exact ih4 _ _ _
   | exact ih5 _ _ _ _
   | exact ih6 _ _ _ _
   | exact ih7 _ _ _
   | exact abridgerref1_run.mono _ _ _
   | exact LeO.none _
   | refine LeO.ite ?_ ?_
   | refine LeO.bind ?_ (fun _ => ?_)
  ·intro y0 y1 y2 y3
   unfold abridgerref1_jnumber.j2
   repeat' first
   | (with_reducible exact ih0 _ _ _ _)
   | (with_reducible exact ih1 _ _ _)
   | (with_reducible exact ih2 _ _ _ _)
   | (with_reducible exact ih3 _ _ _ _)
   | (with_reducible exact ih4 _ _ _)
   | (with_reducible exact ih5 _ _ _ _)
   | (with_reducible exact ih6 _ _ _ _)
   | (with_reducible exact ih7 _ _ _)
   | (with_reducible exact abridgerref1_run.mono _ _ _)
   | (with_reducible exact LeO.refl _)
   | (with_reducible exact LeO.none _)
   | (with_reducible refine LeO.ite ?_ ?_)
   | (with_reducible refine LeO.bind ?_ (fun _ => ?_))
   | exact ih0 _ _ _ _
   | exact ih1 _ _ _
   | exact ih2 _ _ _ _
   | exact ih3 _ _ _ _
   | exact ih4 _ _ _
   | exact ih5 _ _ _ _
   | exact ih6 _ _ _ _
   | exact ih7 _ _ _
   | exact abridgerref1_run.mono _ _ _
   | exact LeO.none _
   | refine LeO.ite ?_ ?_
   | refine LeO.bind ?_ (fun _ => ?_)
  ·intro y0 y1 y2 y3
   unfold abridgerref1_jnumber.j3
   repeat' first
   | (with_reducible exact ih0 _ _ _ _)
   | (with_reducible exact ih1 _ _ _)
   | (with_reducible exact ih2 _ _ _ _)
   | (with_reducible exact ih3 _ _ _ _)
   | (with_reducible exact ih4 _ _ _)
   | (with_reducible exact ih5 _ _ _ _)
   | (with_reducible exact ih6 _ _ _ _)
   | (with_reducible exact ih7 _ _ _)
   | (with_reducible exact abridgerref1_run.mono _ _ _)
   | (with_reducible exact LeO.refl _)
   | (with_reducible exact LeO.none _)
   | (with_reducible refine LeO.ite ?_ ?_)
   | (with_reducible refine LeO.bind ?_ (fun _ => ?_))
   | exact ih0 _ _ _ _
   | exact ih1 _ _ _
   | exact ih2 _ _ _ _
   | exact ih3 _ _ _ _
   | exact ih4 _ _ _
   | exact ih5 _ _ _ _
   | exact ih6 _ _ _ _
   | exact ih7 _ _ _
   | exact abridgerref1_run.mono _ _ _
   | exact LeO.none _
   | refine LeO.ite ?_ ?_
   | refine LeO.bind ?_ (fun _ => ?_)
  ·intro y0 y1 y2
   unfold abridgerref1_jnumber.j4
   repeat' first
   | (with_reducible exact ih0 _ _ _ _)
   | (with_reducible exact ih1 _ _ _)
   | (with_reducible exact ih2 _ _ _ _)
   | (with_reducible exact ih3 _ _ _ _)
   | (with_reducible exact ih4 _ _ _)
   | (with_reducible exact ih5 _ _ _ _)
   | (with_reducible exact ih6 _ _ _ _)
   | (with_reducible exact ih7 _ _ _)
   | (with_reducible exact abridgerref1_run.mono _ _ _)
   | (with_reducible exact LeO.refl _)
   | (with_reducible exact LeO.none _)
   | (with_reducible refine LeO.ite ?_ ?_)
   | (with_reducible refine LeO.bind ?_ (fun _ => ?_))
   | exact ih0 _ _ _ _
   | exact ih1 _ _ _
   | exact ih2 _ _ _ _
   | exact ih3 _ _ _ _
   | exact ih4 _ _ _
   | exact ih5 _ _ _ _
   | exact ih6 _ _ _ _
   | exact ih7 _ _ _
   | exact abridgerref1_run.mono _ _ _
   | exact LeO.none _
   | refine LeO.ite ?_ ?_
   | refine LeO.bind ?_ (fun _ => ?_)
  ·intro y0 y1 y2 y3
   unfold abridgerref1_jnumber.j5
   repeat' first
   | (with_reducible exact ih0 _ _ _ _)
   | (with_reducible exact ih1 _ _ _)
   | (with_reducible exact ih2 _ _ _ _)
   | (with_reducible exact ih3 _ _ _ _)
   | (with_reducible exact ih4 _ _ _)
   | (with_reducible exact ih5 _ _ _ _)
   | (with_reducible exact ih6 _ _ _ _)
   | (with_reducible exact ih7 _ _ _)
   | (with_reducible exact abridgerref1_run.mono _ _ _)
   | (with_reducible exact LeO.refl _)
   | (with_reducible exact LeO.none _)
   | (with_reducible refine LeO.ite ?_ ?_)
   | (with_reducible refine LeO.bind ?_ (fun _ => ?_))
   | exact ih0 _ _ _ _
   | exact ih1 _ _ _
   | exact ih2 _ _ _ _
   | exact ih3 _ _ _ _
   | exact ih4 _ _ _
   | exact ih5 _ _ _ _
   | exact ih6 _ _ _ _
   | exact ih7 _ _ _
   | exact abridgerref1_run.mono _ _ _
   | exact LeO.none _
   | refine LeO.ite ?_ ?_
   | refine LeO.bind ?_ (fun _ => ?_)
  ·intro y0 y1 y2 y3
   unfold abridgerref1_jnumber.j6
   repeat' first
   | (with_reducible exact ih0 _ _ _ _)
   | (with_reducible exact ih1 _ _ _)
   | (with_reducible exact ih2 _ _ _ _)
   | (with_reducible exact ih3 _ _ _ _)
   | (with_reducible exact ih4 _ _ _)
   | (with_reducible exact ih5 _ _ _ _)
   | (with_reducible exact ih6 _ _ _ _)
   | (with_reducible exact ih7 _ _ _)
   | (with_reducible exact abridgerref1_run.mono _ _ _)
   | (with_reducible exact LeO.refl _)
   | (with_reducible exact LeO.none _)
   | (with_reducible refine LeO.ite ?_ ?_)
   | (with_reducible refine LeO.bind ?_ (fun _ => ?_))
   | exact ih0 _ _ _ _
   | exact ih1 _ _ _
   | exact ih2 _ _ _ _
   | exact ih3 _ _ _ _
   | exact ih4 _ _ _
   | exact ih5 _ _ _ _
   | exact ih6 _ _ _ _
   | exact ih7 _ _ _
   | exact abridgerref1_run.mono _ _ _
   | exact LeO.none _
   | refine LeO.ite ?_ ?_
   | refine LeO.bind ?_ (fun _ => ?_)
  ·intro y0 y1 y2
   unfold abridgerref1_jnumber.j7
   repeat' first
   | (with_reducible exact ih0 _ _ _ _)
   | (with_reducible exact ih1 _ _ _)
   | (with_reducible exact ih2 _ _ _ _)
   | (with_reducible exact ih3 _ _ _ _)
   | (with_reducible exact ih4 _ _ _)
   | (with_reducible exact ih5 _ _ _ _)
   | (with_reducible exact ih6 _ _ _ _)
   | (with_reducible exact ih7 _ _ _)
   | (with_reducible exact abridgerref1_run.mono _ _ _)
   | (with_reducible exact LeO.refl _)
   | (with_reducible exact LeO.none _)
   | (with_reducible refine LeO.ite ?_ ?_)
   | (with_reducible refine LeO.bind ?_ (fun _ => ?_))
   | exact ih0 _ _ _ _
   | exact ih1 _ _ _
   | exact ih2 _ _ _ _
   | exact ih3 _ _ _ _
   | exact ih4 _ _ _
   | exact ih5 _ _ _ _
   | exact ih6 _ _ _ _
   | exact ih7 _ _ _
   | exact abridgerref1_run.mono _ _ _
   | exact LeO.none _
   | refine LeO.ite ?_ ?_
   | refine LeO.bind ?_ (fun _ => ?_)
theorem abridgerref1_jnumber.mono : ∀ a0 a1 k, LeO (abridgerref1_jnumber.f k a0 a1) (abridgerref1_jnumber.f (k + 1) a0 a1) := by
 intro a0 a1 k
 obtain ⟨ih0, ih1, ih2, ih3, ih4, ih5, ih6, ih7⟩ := abridgerref1_jnumber.mono_l k
 unfold abridgerref1_jnumber.f
 repeat' first
   | (with_reducible exact ih0 _ _ _ _)
   | (with_reducible exact ih1 _ _ _)
   | (with_reducible exact ih2 _ _ _ _)
   | (with_reducible exact ih3 _ _ _ _)
   | (with_reducible exact ih4 _ _ _)
   | (with_reducible exact ih5 _ _ _ _)
   | (with_reducible exact ih6 _ _ _ _)
   | (with_reducible exact ih7 _ _ _)
   | (with_reducible exact abridgerref1_run.mono _ _ _)
   | (with_reducible exact LeO.refl _)
   | (with_reducible exact LeO.none _)
   | (with_reducible refine LeO.ite ?_ ?_)
   | (with_reducible refine LeO.bind ?_ (fun _ => ?_))
   | exact ih0 _ _ _ _
   | exact ih1 _ _ _
   | exact ih2 _ _ _ _
   | exact ih3 _ _ _ _
   | exact ih4 _ _ _
   | exact ih5 _ _ _ _
   | exact ih6 _ _ _ _
   | exact ih7 _ _ _
   | exact abridgerref1_run.mono _ _ _
   | exact LeO.none _
   | refine LeO.ite ?_ ?_
   | refine LeO.bind ?_ (fun _ => ?_)
set_option maxHeartbeats 8000000 in
set_option maxRecDepth 100000 in
theorem abridgerref1_jnumber.calls (k : Nat) (A0 : Option Addr) (c0 : Nat) (l0 : List Int) (a1 : Int) (r : Int) (w : World) (hr0 : Kd.C (Kd.int .u8) w A0 l0.length l0) (hc0 : l0.length ≤ c0) (h : abridgerref1_jnumber.f k l0 a1 = some r) :
  Calls Try.prog 19 #[.slice A0 l0.length c0, .int .i64 a1] w fun e w' => e = .returned (.int .i64 r) ∧ Drawn0 w w' := by
 have HR0 := Aside0.mk hr0
 have HC0 := Aside0.mk hc0
 clear hr0 hc0
 have H : (if a1 < ((strOfNums l0).size : Int) then (if 0 ≤ a1 then (abridgerref1_jnumber.j0 k l0 (strOfNums l0) a1 ((bt (strOfNums l0) a1) == 45)) else (none)) else (abridgerref1_jnumber.j0 k l0 (strOfNums l0) a1 false)) = some r := h
 clear h
 have HC3 := Aside0.mk H
 clear H
 have hcv4 := Kd.C_string (P := Try.prog) (A := A0) (c := c0) Try.underlying22 Try.underlying5 Try.underlying9 HR0.out
 have hcv4q := fun n_ : Nat => Kd.C_string (P := Try.prog) (A := A0) (c := c0) Try.underlying22 Try.underlying5 Try.underlying9 (Kd.C_drewN HR0.out n_)
 go_enter Try.func19, Try.ntmps19
 go_upto_region 3 with (fail)
 go_cut [22] (fun v22 wc => ∃ (kq : Nat) (x22_2 : Bool), v22 = .bool x22_2 ∧ Aside0 (abridgerref1_jnumber.j0 kq l0 (strOfNums l0) a1 x22_2 = some r) ∧ Aside0 (kq ≤ k) ∧ Drawn0 w wc)
 case first =>
  have H := HC3.out
  clear HC3
  by_cases c5 : a1 < ((strOfNums l0).size : Int)
  ·rw [if_pos c5] at H
   have c5b0 : decide (a1 < ((strOfNums l0).size : Int)) = true := decide_eq_true c5
   clear c5
   (first | rw [c5b0] | (simp only [i64_w, i32_w]; rw [c5b0]) | skip)
   by_cases c6 : 0 ≤ a1
   ·rw [if_pos c6] at H
    have c6b0 : decide (0 ≤ a1) = true := decide_eq_true c6
    clear c6
    have H' := Aside0.mk H
    clear H
    have p7 : 0 ≤ (a1 : Int) := of_decide_eq_true (by first | (with_reducible assumption) | assumption)
    have q7 : a1 < ((strOfNums l0).size : Int) := of_decide_eq_true (by first | (with_reducible assumption) | assumption)
    have hx7 := bt_at (strOfNums l0) a1
    replace p7 := eq_true p7
    replace q7 := eq_true q7
    go_wp2
    go_meet
    case rel => exact ⟨_, (((bt (strOfNums l0) a1) == 45)), (by first | rfl | (simp; done) | (simp [*]; done)), H', ⟨by first | omega | exact Nat.le_refl _⟩, by repeat (first | exact Drawn0.refl _ | apply Drawn0.step)⟩
   ·rw [if_neg c6] at H
    exact absurd H (by simp)
  ·rw [if_neg c5] at H
   have c5b0 : decide (a1 < ((strOfNums l0).size : Int)) = false := decide_eq_false c5
   clear c5
   (first | rw [c5b0] | (simp only [i64_w, i32_w]; rw [c5b0]) | skip)
   have H' := Aside0.mk H
   clear H
   go_wp2
   go_meet
   case rel => exact ⟨_, (false), (by first | rfl | (simp; done) | (simp [*]; done)), H', ⟨by first | omega | exact Nat.le_refl _⟩, by repeat (first | exact Drawn0.refl _ | apply Drawn0.step)⟩
 case rest =>
  clear HC3
  try clear c1
  try clear p2
  try clear hcv4
  try clear c5
  try clear c5b0
  try clear c6
  try clear c6b0
  try clear p7
  try clear q7
  try clear hx7
  try clear p7
  try clear q7
  obtain ⟨kq, x22_2, rfl, HA, HJ2, ⟨mc2, rfl⟩⟩ := hcut
  cases kq with
  | zero => exact absurd HA.out (by simp [abridgerref1_jnumber.j0])
  | succ kj2 =>
   have H := HA.out
   clear HA
   simp only [abridgerref1_jnumber.j0] at H
   have HC8 := Aside0.mk H
   clear H
   go_upto_if 22 with (fail)
   go_cut [6] (fun v6 wc => ∃ (kq : Nat) (x6_7 : Int), v6 = .int .i64 x6_7 ∧ Aside0 (abridgerref1_jnumber.j1 kq l0 (strOfNums l0) x6_7 = some r) ∧ Aside0 (kq ≤ kj2) ∧ Drawn0 w wc)
   case first =>
    have H := HC8.out
    clear HC8
    by_cases c9 : x22_2 = true
    ·subst c9
     have H1 : (abridgerref1_jnumber.j1 kj2 l0 (strOfNums l0) (wrap64 (a1 + 1))) = some r := by rw [if_pos rfl] at H; exact H
     clear H
     have H := H1
     clear H1
     have H' := Aside0.mk H
     clear H
     go_wp2
     go_meet
     case rel => exact ⟨_, (wrap64 (a1 + 1)), (by first | rfl | (simp; done) | (simp [*]; done)), H', ⟨by have := HJ2.out; first | omega | exact Nat.le_refl _⟩, by repeat (first | exact Drawn0.refl _ | apply Drawn0.step)⟩
    ·replace c9 := Bool.eq_false_iff.mpr c9
     subst c9
     have H1 : (abridgerref1_jnumber.j1 kj2 l0 (strOfNums l0) a1) = some r := by rw [if_neg (show ¬ (false = true) by decide)] at H; exact H
     clear H
     have H := H1
     clear H1
     have H' := Aside0.mk H
     clear H
     go_wp2
     go_meet
     case rel => exact ⟨_, (a1), (by first | rfl | (simp; done) | (simp [*]; done)), H', ⟨by have := HJ2.out; first | omega | exact Nat.le_refl _⟩, by repeat (first | exact Drawn0.refl _ | apply Drawn0.step)⟩
   case rest =>
    clear HC8
    try clear c1
    try clear c2
    try clear p2
    try clear hcv4
    try clear c5
    try clear c5b0
    try clear c6
    try clear c6b0
    try clear p6
    try clear p7
    try clear q7
    try clear hx7
    try clear c9
    try clear p2
    try clear p7
    try clear q7
    obtain ⟨kq, x6_7, rfl, HA, HJ7, ⟨mc7, rfl⟩⟩ := hcut
    cases kq with
    | zero => exact absurd HA.out (by simp [abridgerref1_jnumber.j1])
    | succ kj7 =>
     have H := HA.out
     clear HA
     simp only [abridgerref1_jnumber.j1] at H
     replace H := Option.bind_eq_some_iff.mp H
     obtain ⟨t213, A100, H⟩ := H
     replace H : (if t213 = x6_7 then (abridgerref1_jnumber.j2 kj7 l0 (strOfNums l0) t213 true) else (if 0 ≤ x6_7 then (if x6_7 < ((strOfNums l0).size : Int) then (if (bt (strOfNums l0) x6_7) = 48 then (abridgerref1_jnumber.j2 kj7 l0 (strOfNums l0) t213 (decide (t213 > (wrap64 (x6_7 + 1))))) else (abridgerref1_jnumber.j2 kj7 l0 (strOfNums l0) t213 false)) else (none)) else (none))) = some r := H
     have A10 := Aside0.mk A100
     clear A100
     have HC11 := Aside0.mk H
     clear H
     go_upto_region 6 with (first | ((with_reducible refine gate_callee (f := 28) rfl ?_); refine goesL_ (some 27) rfl rfl Try.func28 (by kernel_rfl) rfl #[.string (strOfNums l0), .int .i64 x6_7] rfl (by (try simp only [List.map_toArray, List.map_cons, List.map_nil]); first | done | rfl | (simp only [List.length_drop, List.length_take]; rfl)) ?_; (with_reducible refine (abridgerref1_run.calls kj7 (strOfNums l0) x6_7 t213 _ A10.out).mono ?_); rintro e w' ⟨rfl, ⟨nd, rfl⟩⟩; refine ⟨_, rfl, ?_⟩))
     (try simp only [Act.put, List.setIfInBounds_toArray, List.set_cons_zero, List.set_cons_succ])
     go_cut [42] (fun v42 wc => ∃ (kq : Nat) (x42_10 : Bool), v42 = .bool x42_10 ∧ Aside0 (abridgerref1_jnumber.j2 kq l0 (strOfNums l0) t213 x42_10 = some r) ∧ Aside0 (kq ≤ kj7) ∧ Drawn0 w wc)
     case first =>
      have H := HC11.out
      clear HC11
      by_cases c12 : t213 = x6_7
      ·rw [if_pos c12] at H
       have c12b0 : (t213 == x6_7) = true := beq_iff_eq.mpr c12
       have c12b1 : (t213 != x6_7) = false := bne_eq_false_iff_eq.mpr c12
       clear c12
       (first | rw [c12b0] | (simp only [i64_w, i32_w]; rw [c12b0]) | skip)
       have H' := Aside0.mk H
       clear H
       go_wp2
       go_meet
       case rel => exact ⟨_, (true), (by first | rfl | (simp; done) | (simp [*]; done)), H', ⟨by have := HJ2.out; have := HJ7.out; first | omega | exact Nat.le_refl _⟩, by repeat (first | exact Drawn0.refl _ | apply Drawn0.step)⟩
      ·rw [if_neg c12] at H
       have c12b0 : (t213 == x6_7) = false := beq_eq_false_iff_ne.mpr c12
       have c12b1 : (t213 != x6_7) = true := bne_iff_ne.mpr c12
       (first | rw [c12b0] | (simp only [i64_w, i32_w]; rw [c12b0]) | skip)
       by_cases c13 : 0 ≤ x6_7
       ·rw [if_pos c13] at H
        have c13b0 : decide (0 ≤ x6_7) = true := decide_eq_true c13
        clear c13
        by_cases c14 : x6_7 < ((strOfNums l0).size : Int)
        ·rw [if_pos c14] at H
         have c14b0 : decide (x6_7 < ((strOfNums l0).size : Int)) = true := decide_eq_true c14
         clear c14
         by_cases c16 : (bt (strOfNums l0) x6_7) = 48
         ·rw [if_pos c16] at H
          have c16b0 : ((bt (strOfNums l0) x6_7) == 48) = true := beq_iff_eq.mpr c16
          have c16b1 : ((bt (strOfNums l0) x6_7) != 48) = false := bne_eq_false_iff_eq.mpr c16
          clear c16
          have H' := Aside0.mk H
          clear H
          have p15 : 0 ≤ (x6_7 : Int) := of_decide_eq_true (by first | (with_reducible assumption) | assumption)
          have q15 : x6_7 < ((strOfNums l0).size : Int) := of_decide_eq_true (by first | (with_reducible assumption) | assumption)
          have hx15 := bt_at (strOfNums l0) x6_7
          replace p15 := eq_true p15
          replace q15 := eq_true q15
          go_wp2
          go_meet
          case rel => exact ⟨_, (decide (t213 > (wrap64 (x6_7 + 1)))), (by first | rfl | (simp; done) | (simp [*]; done)), H', ⟨by have := HJ2.out; have := HJ7.out; first | omega | exact Nat.le_refl _⟩, by repeat (first | exact Drawn0.refl _ | apply Drawn0.step)⟩
         ·rw [if_neg c16] at H
          have c16b0 : ((bt (strOfNums l0) x6_7) == 48) = false := beq_eq_false_iff_ne.mpr c16
          have c16b1 : ((bt (strOfNums l0) x6_7) != 48) = true := bne_iff_ne.mpr c16
          have H' := Aside0.mk H
          clear H
          have p15 : 0 ≤ (x6_7 : Int) := of_decide_eq_true (by first | (with_reducible assumption) | assumption)
          have q15 : x6_7 < ((strOfNums l0).size : Int) := of_decide_eq_true (by first | (with_reducible assumption) | assumption)
          have hx15 := bt_at (strOfNums l0) x6_7
          replace p15 := eq_true p15
          replace q15 := eq_true q15
          go_wp2
          go_meet
          case rel => exact ⟨_, (false), (by first | rfl | (simp; done) | (simp [*]; done)), H', ⟨by have := HJ2.out; have := HJ7.out; first | omega | exact Nat.le_refl _⟩, by repeat (first | exact Drawn0.refl _ | apply Drawn0.step)⟩
        ·rw [if_neg c14] at H
         exact absurd H (by simp)
       ·rw [if_neg c13] at H
        exact absurd H (by simp)
     case rest =>
      clear HC11
      try clear c1
      try clear p1
      try clear q1
      try clear hx1
      try clear c2
      try clear p2
      try clear hcv4
      try clear c5
      try clear c5b0
      try clear c6
      try clear c6b0
      try clear p6
      try clear c7
      try clear p7
      try clear q7
      try clear hx7
      try clear c9
      try clear c12
      try clear c12b0
      try clear c12b1
      try clear c13
      try clear c13b0
      try clear c14
      try clear c14b0
      try clear p15
      try clear q15
      try clear hx15
      try clear c16
      try clear c16b0
      try clear c16b1
      try clear p15
      try clear p2
      try clear p6
      try clear p7
      try clear q15
      try clear q7
      obtain ⟨kq, x42_10, rfl, HA, HJ10, ⟨mc10, rfl⟩⟩ := hcut
      cases kq with
      | zero => exact absurd HA.out (by simp [abridgerref1_jnumber.j2])
      | succ kj10 =>
       have H := HA.out
       clear HA
       simp only [abridgerref1_jnumber.j2] at H
       by_cases c17 : x42_10 = true
       ·subst c17
        have H1 : (some (-1)) = some r := by rw [if_pos rfl] at H; exact H
        clear H
        have H := H1
        clear H1
        obtain rfl := Option.some.inj H
        go_wp2
        go_ret
        exact ⟨by first | rfl | (simp; done) | (simp [*]; done), by repeat (first | exact Drawn0.refl _ | apply Drawn0.step)⟩
       ·replace c17 := Bool.eq_false_iff.mpr c17
        subst c17
        have H1 : (if t213 < ((strOfNums l0).size : Int) then (if 0 ≤ t213 then (abridgerref1_jnumber.j3 kj10 l0 (strOfNums l0) t213 ((bt (strOfNums l0) t213) == 46)) else (none)) else (abridgerref1_jnumber.j3 kj10 l0 (strOfNums l0) t213 false)) = some r := by rw [if_neg (show ¬ (false = true) by decide)] at H; exact H
        clear H
        have H := H1
        clear H1
        have HC18 := Aside0.mk H
        clear H
        go_upto_region 8 with (fail)
        go_cut [52] (fun v52 wc => ∃ (kq : Nat) (x52_17 : Bool), v52 = .bool x52_17 ∧ Aside0 (abridgerref1_jnumber.j3 kq l0 (strOfNums l0) t213 x52_17 = some r) ∧ Aside0 (kq ≤ kj10) ∧ Drawn0 w wc)
        case first =>
         have H := HC18.out
         clear HC18
         by_cases c19 : t213 < ((strOfNums l0).size : Int)
         ·rw [if_pos c19] at H
          have c19b0 : decide (t213 < ((strOfNums l0).size : Int)) = true := decide_eq_true c19
          clear c19
          (first | rw [c19b0] | (simp only [i64_w, i32_w]; rw [c19b0]) | skip)
          by_cases c20 : 0 ≤ t213
          ·rw [if_pos c20] at H
           have c20b0 : decide (0 ≤ t213) = true := decide_eq_true c20
           clear c20
           have H' := Aside0.mk H
           clear H
           have p21 : 0 ≤ (t213 : Int) := of_decide_eq_true (by first | (with_reducible assumption) | assumption)
           have q21 : t213 < ((strOfNums l0).size : Int) := of_decide_eq_true (by first | (with_reducible assumption) | assumption)
           have hx21 := bt_at (strOfNums l0) t213
           replace p21 := eq_true p21
           replace q21 := eq_true q21
           go_wp2
           go_meet
           case rel => exact ⟨_, (((bt (strOfNums l0) t213) == 46)), (by first | rfl | (simp; done) | (simp [*]; done)), H', ⟨by have := HJ2.out; have := HJ7.out; have := HJ10.out; first | omega | exact Nat.le_refl _⟩, by repeat (first | exact Drawn0.refl _ | apply Drawn0.step)⟩
          ·rw [if_neg c20] at H
           exact absurd H (by simp)
         ·rw [if_neg c19] at H
          have c19b0 : decide (t213 < ((strOfNums l0).size : Int)) = false := decide_eq_false c19
          clear c19
          (first | rw [c19b0] | (simp only [i64_w, i32_w]; rw [c19b0]) | skip)
          have H' := Aside0.mk H
          clear H
          go_wp2
          go_meet
          case rel => exact ⟨_, (false), (by first | rfl | (simp; done) | (simp [*]; done)), H', ⟨by have := HJ2.out; have := HJ7.out; have := HJ10.out; first | omega | exact Nat.le_refl _⟩, by repeat (first | exact Drawn0.refl _ | apply Drawn0.step)⟩
        case rest =>
         clear HC18
         try clear c1
         try clear p1
         try clear q1
         try clear hx1
         try clear c2
         try clear p2
         try clear q2
         try clear hx2
         try clear hcv4
         try clear c5
         try clear c5b0
         try clear c6
         try clear c6b0
         try clear p6
         try clear c7
         try clear p7
         try clear q7
         try clear hx7
         try clear c9
         try clear c10
         try clear c12
         try clear c12b0
         try clear c12b1
         try clear c13
         try clear c13b0
         try clear c14
         try clear c14b0
         try clear p15
         try clear q15
         try clear hx15
         try clear c16
         try clear c16b0
         try clear c16b1
         try clear c17
         try clear c19
         try clear c19b0
         try clear c20
         try clear c20b0
         try clear p21
         try clear q21
         try clear hx21
         try clear p1
         try clear p15
         try clear p2
         try clear p21
         try clear p6
         try clear p7
         try clear q1
         try clear q15
         try clear q21
         try clear q7
         obtain ⟨kq, x52_17, rfl, HA, HJ17, ⟨mc17, rfl⟩⟩ := hcut
         cases kq with
         | zero => exact absurd HA.out (by simp [abridgerref1_jnumber.j3])
         | succ kj17 =>
          have H := HA.out
          clear HA
          simp only [abridgerref1_jnumber.j3] at H
          have HC22 := Aside0.mk H
          clear H
          go_upto_if 52 with (fail)
          go_cut [7] (fun v7 wc => ∃ (kq : Nat) (x7_21 : Int), v7 = .int .i64 x7_21 ∧ Aside0 (abridgerref1_jnumber.j4 kq l0 (strOfNums l0) x7_21 = some r) ∧ Aside0 (kq ≤ kj17) ∧ Drawn0 w wc)
          case first =>
           have H := HC22.out
           clear HC22
           by_cases c23 : x52_17 = true
           ·subst c23
            have H1 : ((abridgerref1_run.f kj17 (strOfNums l0) (wrap64 (t213 + 1))).bind fun t214 => (if t214 = (wrap64 (t213 + 1)) then (some (-1)) else (abridgerref1_jnumber.j4 kj17 l0 (strOfNums l0) t214))) = some r := by rw [if_pos rfl] at H; exact H
            clear H
            have H := H1
            clear H1
            replace H := Option.bind_eq_some_iff.mp H
            obtain ⟨t214, A240, H⟩ := H
            replace H : (if t214 = (wrap64 (t213 + 1)) then (some (-1)) else (abridgerref1_jnumber.j4 kj17 l0 (strOfNums l0) t214)) = some r := H
            have A24 := Aside0.mk A240
            clear A240
            by_cases c25 : t214 = (wrap64 (t213 + 1))
            ·rw [if_pos c25] at H
             have c25b0 : (t214 == (wrap64 (t213 + 1))) = true := beq_iff_eq.mpr c25
             have c25b1 : (t214 != (wrap64 (t213 + 1))) = false := bne_eq_false_iff_eq.mpr c25
             clear c25
             (first | rw [c25b0] | (simp only [i64_w, i32_w]; rw [c25b0]) | skip)
             obtain rfl := Option.some.inj H
             go_wp2_with (first | ((with_reducible refine gate_callee (f := 28) rfl ?_); refine goesL_ (some 56) rfl rfl Try.func28 (by kernel_rfl) rfl #[.string (strOfNums l0), .int .i64 (wrap64 (t213 + 1))] rfl (by (try simp only [List.map_toArray, List.map_cons, List.map_nil]); first | done | rfl | (simp only [List.length_drop, List.length_take]; rfl)) ?_; (with_reducible refine (abridgerref1_run.calls kj17 (strOfNums l0) (wrap64 (t213 + 1)) t214 _ A24.out).mono ?_); rintro e w' ⟨rfl, ⟨nd, rfl⟩⟩; refine ⟨_, rfl, ?_⟩))
             go_ret
             exact ⟨by first | rfl | (simp; done) | (simp [*]; done), by repeat (first | exact Drawn0.refl _ | apply Drawn0.step)⟩
            ·rw [if_neg c25] at H
             have c25b0 : (t214 == (wrap64 (t213 + 1))) = false := beq_eq_false_iff_ne.mpr c25
             have c25b1 : (t214 != (wrap64 (t213 + 1))) = true := bne_iff_ne.mpr c25
             (first | rw [c25b0] | (simp only [i64_w, i32_w]; rw [c25b0]) | skip)
             have H' := Aside0.mk H
             clear H
             go_wp2_with (first | ((with_reducible refine gate_callee (f := 28) rfl ?_); refine goesL_ (some 56) rfl rfl Try.func28 (by kernel_rfl) rfl #[.string (strOfNums l0), .int .i64 (wrap64 (t213 + 1))] rfl (by (try simp only [List.map_toArray, List.map_cons, List.map_nil]); first | done | rfl | (simp only [List.length_drop, List.length_take]; rfl)) ?_; (with_reducible refine (abridgerref1_run.calls kj17 (strOfNums l0) (wrap64 (t213 + 1)) t214 _ A24.out).mono ?_); rintro e w' ⟨rfl, ⟨nd, rfl⟩⟩; refine ⟨_, rfl, ?_⟩))
             go_meet
             case rel => exact ⟨_, (t214), (by first | rfl | (simp; done) | (simp [*]; done)), H', ⟨by have := HJ2.out; have := HJ7.out; have := HJ10.out; have := HJ17.out; first | omega | exact Nat.le_refl _⟩, by repeat (first | exact Drawn0.refl _ | apply Drawn0.step)⟩
           ·replace c23 := Bool.eq_false_iff.mpr c23
            subst c23
            have H1 : (abridgerref1_jnumber.j4 kj17 l0 (strOfNums l0) t213) = some r := by rw [if_neg (show ¬ (false = true) by decide)] at H; exact H
            clear H
            have H := H1
            clear H1
            have H' := Aside0.mk H
            clear H
            go_wp2
            go_meet
            case rel => exact ⟨_, (t213), (by first | rfl | (simp; done) | (simp [*]; done)), H', ⟨by have := HJ2.out; have := HJ7.out; have := HJ10.out; have := HJ17.out; first | omega | exact Nat.le_refl _⟩, by repeat (first | exact Drawn0.refl _ | apply Drawn0.step)⟩
          case rest =>
           clear HC22
           try clear c1
           try clear p1
           try clear q1
           try clear hx1
           try clear c2
           try clear p2
           try clear q2
           try clear hx2
           try clear hcv4
           try clear c5
           try clear c5b0
           try clear c6
           try clear c6b0
           try clear p6
           try clear c7
           try clear p7
           try clear q7
           try clear hx7
           try clear c9
           try clear c10
           try clear c12
           try clear c12b0
           try clear c12b1
           try clear c13
           try clear c13b0
           try clear c14
           try clear c14b0
           try clear p15
           try clear q15
           try clear hx15
           try clear c16
           try clear c16b0
           try clear c16b1
           try clear c17
           try clear c19
           try clear c19b0
           try clear c20
           try clear c20b0
           try clear p21
           try clear q21
           try clear hx21
           try clear c23
           try clear c25
           try clear c25b0
           try clear c25b1
           try clear p1
           try clear p15
           try clear p2
           try clear p21
           try clear p6
           try clear p7
           try clear q1
           try clear q15
           try clear q2
           try clear q21
           try clear q7
           obtain ⟨kq, x7_21, rfl, HA, HJ21, ⟨mc21, rfl⟩⟩ := hcut
           cases kq with
           | zero => exact absurd HA.out (by simp [abridgerref1_jnumber.j4])
           | succ kj21 =>
            have H := HA.out
            clear HA
            simp only [abridgerref1_jnumber.j4] at H
            have HC26 := Aside0.mk H
            clear H
            go_upto_region 13 with (fail)
            go_cut [77] (fun v77 wc => ∃ (kq : Nat) (x77_25 : Bool), v77 = .bool x77_25 ∧ Aside0 (abridgerref1_jnumber.j5 kq l0 (strOfNums l0) x7_21 x77_25 = some r) ∧ Aside0 (kq ≤ kj21) ∧ Drawn0 w wc)
            case first =>
             have H := HC26.out
             clear HC26
             by_cases c27 : x7_21 < ((strOfNums l0).size : Int)
             ·rw [if_pos c27] at H
              have c27b0 : decide (x7_21 < ((strOfNums l0).size : Int)) = true := decide_eq_true c27
              clear c27
              (first | rw [c27b0] | (simp only [i64_w, i32_w]; rw [c27b0]) | skip)
              by_cases c28 : 0 ≤ x7_21
              ·rw [if_pos c28] at H
               have c28b0 : decide (0 ≤ x7_21) = true := decide_eq_true c28
               clear c28
               by_cases c30 : (bt (strOfNums l0) x7_21) = 101
               ·rw [if_pos c30] at H
                have c30b0 : ((bt (strOfNums l0) x7_21) == 101) = true := beq_iff_eq.mpr c30
                have c30b1 : ((bt (strOfNums l0) x7_21) != 101) = false := bne_eq_false_iff_eq.mpr c30
                clear c30
                have H' := Aside0.mk H
                clear H
                have p29 : 0 ≤ (x7_21 : Int) := of_decide_eq_true (by first | (with_reducible assumption) | assumption)
                have q29 : x7_21 < ((strOfNums l0).size : Int) := of_decide_eq_true (by first | (with_reducible assumption) | assumption)
                have hx29 := bt_at (strOfNums l0) x7_21
                replace p29 := eq_true p29
                replace q29 := eq_true q29
                go_wp2
                go_meet
                case rel => exact ⟨_, (true), (by first | rfl | (simp; done) | (simp [*]; done)), H', ⟨by have := HJ2.out; have := HJ7.out; have := HJ10.out; have := HJ17.out; have := HJ21.out; first | omega | exact Nat.le_refl _⟩, by repeat (first | exact Drawn0.refl _ | apply Drawn0.step)⟩
               ·rw [if_neg c30] at H
                have c30b0 : ((bt (strOfNums l0) x7_21) == 101) = false := beq_eq_false_iff_ne.mpr c30
                have c30b1 : ((bt (strOfNums l0) x7_21) != 101) = true := bne_iff_ne.mpr c30
                have H' := Aside0.mk H
                clear H
                have p29 : 0 ≤ (x7_21 : Int) := of_decide_eq_true (by first | (with_reducible assumption) | assumption)
                have q29 : x7_21 < ((strOfNums l0).size : Int) := of_decide_eq_true (by first | (with_reducible assumption) | assumption)
                have hx29 := bt_at (strOfNums l0) x7_21
                replace p29 := eq_true p29
                replace q29 := eq_true q29
                have p31 : 0 ≤ (x7_21 : Int) := of_decide_eq_true (by first | (with_reducible assumption) | assumption)
                have q31 : x7_21 < ((strOfNums l0).size : Int) := of_decide_eq_true (by first | (with_reducible assumption) | assumption)
                have hx31 := bt_at (strOfNums l0) x7_21
                replace p31 := eq_true p31
                replace q31 := eq_true q31
                go_wp2
                go_meet
                case rel => exact ⟨_, (((bt (strOfNums l0) x7_21) == 69)), (by first | rfl | (simp; done) | (simp [*]; done)), H', ⟨by have := HJ2.out; have := HJ7.out; have := HJ10.out; have := HJ17.out; have := HJ21.out; first | omega | exact Nat.le_refl _⟩, by repeat (first | exact Drawn0.refl _ | apply Drawn0.step)⟩
              ·rw [if_neg c28] at H
               exact absurd H (by simp)
             ·rw [if_neg c27] at H
              have c27b0 : decide (x7_21 < ((strOfNums l0).size : Int)) = false := decide_eq_false c27
              clear c27
              (first | rw [c27b0] | (simp only [i64_w, i32_w]; rw [c27b0]) | skip)
              have H' := Aside0.mk H
              clear H
              go_wp2
              go_meet
              case rel => exact ⟨_, (false), (by first | rfl | (simp; done) | (simp [*]; done)), H', ⟨by have := HJ2.out; have := HJ7.out; have := HJ10.out; have := HJ17.out; have := HJ21.out; first | omega | exact Nat.le_refl _⟩, by repeat (first | exact Drawn0.refl _ | apply Drawn0.step)⟩
            case rest =>
             clear HC26
             try clear c1
             try clear p1
             try clear q1
             try clear hx1
             try clear c2
             try clear p2
             try clear q2
             try clear hx2
             try clear c3
             try clear p3
             try clear q3
             try clear hx3
             try clear hcv4
             try clear c5
             try clear c5b0
             try clear c6
             try clear c6b0
             try clear p6
             try clear c7
             try clear p7
             try clear q7
             try clear hx7
             try clear c9
             try clear c10
             try clear c12
             try clear c12b0
             try clear c12b1
             try clear c13
             try clear c13b0
             try clear c14
             try clear c14b0
             try clear p15
             try clear q15
             try clear hx15
             try clear c16
             try clear c16b0
             try clear c16b1
             try clear c17
             try clear c19
             try clear c19b0
             try clear c20
             try clear c20b0
             try clear c21
             try clear p21
             try clear q21
             try clear hx21
             try clear c23
             try clear c25
             try clear c25b0
             try clear c25b1
             try clear c27
             try clear c27b0
             try clear c28
             try clear c28b0
             try clear p29
             try clear q29
             try clear hx29
             try clear c30
             try clear c30b0
             try clear c30b1
             try clear p31
             try clear q31
             try clear hx31
             try clear p1
             try clear p15
             try clear p2
             try clear p21
             try clear p29
             try clear p31
             try clear p6
             try clear p7
             try clear q1
             try clear q15
             try clear q2
             try clear q21
             try clear q29
             try clear q31
             try clear q7
             obtain ⟨kq, x77_25, rfl, HA, HJ25, ⟨mc25, rfl⟩⟩ := hcut
             cases kq with
             | zero => exact absurd HA.out (by simp [abridgerref1_jnumber.j5])
             | succ kj25 =>
              have H := HA.out
              clear HA
              simp only [abridgerref1_jnumber.j5] at H
              by_cases c32 : x77_25 = true
              ·subst c32
               have H1 : (if (wrap64 (x7_21 + 1)) < ((strOfNums l0).size : Int) then (if 0 ≤ (wrap64 (x7_21 + 1)) then (if (bt (strOfNums l0) (wrap64 (x7_21 + 1))) = 43 then (abridgerref1_jnumber.j6 kj25 l0 (strOfNums l0) (wrap64 (x7_21 + 1)) true) else (abridgerref1_jnumber.j6 kj25 l0 (strOfNums l0) (wrap64 (x7_21 + 1)) ((bt (strOfNums l0) (wrap64 (x7_21 + 1))) == 45))) else (none)) else (abridgerref1_jnumber.j6 kj25 l0 (strOfNums l0) (wrap64 (x7_21 + 1)) false)) = some r := by rw [if_pos rfl] at H; exact H
               clear H
               have H := H1
               clear H1
               have HC33 := Aside0.mk H
               clear H
               go_upto_region 15 with (fail)
               go_cut [95] (fun v95 wc => ∃ (kq : Nat) (x95_32 : Bool), v95 = .bool x95_32 ∧ Aside0 (abridgerref1_jnumber.j6 kq l0 (strOfNums l0) (wrap64 (x7_21 + 1)) x95_32 = some r) ∧ Aside0 (kq ≤ kj25) ∧ Drawn0 w wc)
               case first =>
                have H := HC33.out
                clear HC33
                by_cases c34 : (wrap64 (x7_21 + 1)) < ((strOfNums l0).size : Int)
                ·rw [if_pos c34] at H
                 have c34b0 : decide ((wrap64 (x7_21 + 1)) < ((strOfNums l0).size : Int)) = true := decide_eq_true c34
                 clear c34
                 (first | rw [c34b0] | (simp only [i64_w, i32_w]; rw [c34b0]) | skip)
                 obtain ⟨ji35, hji35⟩ : ∃ j_ : Int, (wrap64 (x7_21 + 1)) = j_ := ⟨_, rfl⟩
                 replace H : (if 0 ≤ (ji35) then (if (bt (strOfNums l0) (ji35)) = 43 then (abridgerref1_jnumber.j6 kj25 l0 (strOfNums l0) ji35 true) else (abridgerref1_jnumber.j6 kj25 l0 (strOfNums l0) ji35 ((bt (strOfNums l0) (ji35)) == 45))) else (none)) = some r := by first | (rw [hji35] at H; exact H) | (simp only [hji35] at H ⊢; exact H)
                 (try rw [hji35] at c34b0)
                 have hji35w : (IntKind.i64.wrap (x7_21 + 1)) = ji35 := (i64_w _).trans hji35
                 by_cases c36 : 0 ≤ (ji35)
                 ·rw [if_pos c36] at H
                  have c36b0 : decide (0 ≤ (ji35)) = true := decide_eq_true c36
                  clear c36
                  by_cases c38 : (bt (strOfNums l0) (ji35)) = 43
                  ·rw [if_pos c38] at H
                   have c38b0 : ((bt (strOfNums l0) (ji35)) == 43) = true := beq_iff_eq.mpr c38
                   have c38b1 : ((bt (strOfNums l0) (ji35)) != 43) = false := bne_eq_false_iff_eq.mpr c38
                   clear c38
                   have H' := Aside0.mk H
                   clear H
                   have p37 : 0 ≤ ((ji35) : Int) := of_decide_eq_true (by first | (with_reducible assumption) | assumption)
                   have q37 : (ji35) < ((strOfNums l0).size : Int) := of_decide_eq_true (by first | (with_reducible assumption) | assumption)
                   have hx37 := bt_at (strOfNums l0) (ji35)
                   replace p37 := eq_true p37
                   replace q37 := eq_true q37
                   go_wp2
                   go_meet
                   case rel => exact ⟨_, (true), (by first | rfl | (simp; done) | (simp [*]; done)), (by first | exact H' | (rw [hji35]; exact H')), ⟨by have := HJ2.out; have := HJ7.out; have := HJ10.out; have := HJ17.out; have := HJ21.out; have := HJ25.out; first | omega | exact Nat.le_refl _⟩, by repeat (first | exact Drawn0.refl _ | apply Drawn0.step)⟩
                  ·rw [if_neg c38] at H
                   have c38b0 : ((bt (strOfNums l0) (ji35)) == 43) = false := beq_eq_false_iff_ne.mpr c38
                   have c38b1 : ((bt (strOfNums l0) (ji35)) != 43) = true := bne_iff_ne.mpr c38
                   have H' := Aside0.mk H
                   clear H
                   have p37 : 0 ≤ ((ji35) : Int) := of_decide_eq_true (by first | (with_reducible assumption) | assumption)
                   have q37 : (ji35) < ((strOfNums l0).size : Int) := of_decide_eq_true (by first | (with_reducible assumption) | assumption)
                   have hx37 := bt_at (strOfNums l0) (ji35)
                   replace p37 := eq_true p37
                   replace q37 := eq_true q37
                   have p39 : 0 ≤ ((ji35) : Int) := of_decide_eq_true (by first | (with_reducible assumption) | assumption)
                   have q39 : (ji35) < ((strOfNums l0).size : Int) := of_decide_eq_true (by first | (with_reducible assumption) | assumption)
                   have hx39 := bt_at (strOfNums l0) (ji35)
                   replace p39 := eq_true p39
                   replace q39 := eq_true q39
                   go_wp2
                   go_meet
                   case rel => exact ⟨_, (((bt (strOfNums l0) (ji35)) == 45)), (by first | rfl | (simp; done) | (simp only [← hji35] <;> (first | rfl | simp)) | (simp [*]; done)), (by first | exact H' | (rw [hji35]; exact H')), ⟨by have := HJ2.out; have := HJ7.out; have := HJ10.out; have := HJ17.out; have := HJ21.out; have := HJ25.out; first | omega | exact Nat.le_refl _⟩, by repeat (first | exact Drawn0.refl _ | apply Drawn0.step)⟩
                 ·rw [if_neg c36] at H
                  exact absurd H (by simp)
                ·rw [if_neg c34] at H
                 have c34b0 : decide ((wrap64 (x7_21 + 1)) < ((strOfNums l0).size : Int)) = false := decide_eq_false c34
                 clear c34
                 (first | rw [c34b0] | (simp only [i64_w, i32_w]; rw [c34b0]) | skip)
                 have H' := Aside0.mk H
                 clear H
                 go_wp2
                 go_meet
                 case rel => exact ⟨_, (false), (by first | rfl | (simp; done) | (simp [*]; done)), H', ⟨by have := HJ2.out; have := HJ7.out; have := HJ10.out; have := HJ17.out; have := HJ21.out; have := HJ25.out; first | omega | exact Nat.le_refl _⟩, by repeat (first | exact Drawn0.refl _ | apply Drawn0.step)⟩
               case rest =>
                clear HC33
                try clear c1
                try clear p1
                try clear q1
                try clear hx1
                try clear c2
                try clear p2
                try clear q2
                try clear hx2
                try clear c3
                try clear p3
                try clear q3
                try clear hx3
                try clear hcv4
                try clear c5
                try clear c5b0
                try clear c6
                try clear c6b0
                try clear p6
                try clear c7
                try clear p7
                try clear q7
                try clear hx7
                try clear c9
                try clear c10
                try clear c12
                try clear c12b0
                try clear c12b1
                try clear c13
                try clear c13b0
                try clear c14
                try clear c14b0
                try clear p15
                try clear q15
                try clear hx15
                try clear c16
                try clear c16b0
                try clear c16b1
                try clear c17
                try clear c19
                try clear c19b0
                try clear c20
                try clear c20b0
                try clear c21
                try clear p21
                try clear q21
                try clear hx21
                try clear c23
                try clear c25
                try clear c25b0
                try clear c25b1
                try clear c27
                try clear c27b0
                try clear c28
                try clear c28b0
                try clear p29
                try clear q29
                try clear hx29
                try clear c30
                try clear c30b0
                try clear c30b1
                try clear p31
                try clear q31
                try clear hx31
                try clear c32
                try clear c34
                try clear c34b0
                try clear c36
                try clear c36b0
                try clear p37
                try clear q37
                try clear hx37
                try clear c38
                try clear c38b0
                try clear c38b1
                try clear p39
                try clear q39
                try clear hx39
                try clear p1
                try clear p15
                try clear p2
                try clear p21
                try clear p29
                try clear p3
                try clear p31
                try clear p37
                try clear p39
                try clear p6
                try clear p7
                try clear q1
                try clear q15
                try clear q2
                try clear q21
                try clear q29
                try clear q3
                try clear q31
                try clear q37
                try clear q39
                try clear q7
                obtain ⟨kq, x95_32, rfl, HA, HJ32, ⟨mc32, rfl⟩⟩ := hcut
                cases kq with
                | zero => exact absurd HA.out (by simp [abridgerref1_jnumber.j6])
                | succ kj32 =>
                 have H := HA.out
                 clear HA
                 simp only [abridgerref1_jnumber.j6] at H
                 have HC40 := Aside0.mk H
                 clear H
                 go_upto_if 95 with (fail)
                 go_cut [9] (fun v9 wc => ∃ (kq : Nat) (x9_39 : Int), v9 = .int .i64 x9_39 ∧ Aside0 (abridgerref1_jnumber.j7 kq l0 (strOfNums l0) x9_39 = some r) ∧ Aside0 (kq ≤ kj32) ∧ Drawn0 w wc)
                 case first =>
                  have H := HC40.out
                  clear HC40
                  by_cases c41 : x95_32 = true
                  ·subst c41
                   have H1 : (abridgerref1_jnumber.j7 kj32 l0 (strOfNums l0) (wrap64 ((wrap64 (x7_21 + 1)) + 1))) = some r := by rw [if_pos rfl] at H; exact H
                   clear H
                   have H := H1
                   clear H1
                   have H' := Aside0.mk H
                   clear H
                   go_wp2
                   go_meet
                   case rel => exact ⟨_, (wrap64 ((wrap64 (x7_21 + 1)) + 1)), (by first | rfl | (simp; done) | (simp [*]; done)), H', ⟨by have := HJ2.out; have := HJ7.out; have := HJ10.out; have := HJ17.out; have := HJ21.out; have := HJ25.out; have := HJ32.out; first | omega | exact Nat.le_refl _⟩, by repeat (first | exact Drawn0.refl _ | apply Drawn0.step)⟩
                  ·replace c41 := Bool.eq_false_iff.mpr c41
                   subst c41
                   have H1 : (abridgerref1_jnumber.j7 kj32 l0 (strOfNums l0) (wrap64 (x7_21 + 1))) = some r := by rw [if_neg (show ¬ (false = true) by decide)] at H; exact H
                   clear H
                   have H := H1
                   clear H1
                   have H' := Aside0.mk H
                   clear H
                   go_wp2
                   go_meet
                   case rel => exact ⟨_, ((wrap64 (x7_21 + 1))), (by first | rfl | (simp; done) | (simp [*]; done)), H', ⟨by have := HJ2.out; have := HJ7.out; have := HJ10.out; have := HJ17.out; have := HJ21.out; have := HJ25.out; have := HJ32.out; first | omega | exact Nat.le_refl _⟩, by repeat (first | exact Drawn0.refl _ | apply Drawn0.step)⟩
                 case rest =>
                  clear HC40
                  try clear c1
                  try clear p1
                  try clear q1
                  try clear hx1
                  try clear c2
                  try clear p2
                  try clear q2
                  try clear hx2
                  try clear c3
                  try clear p3
                  try clear q3
                  try clear hx3
                  try clear c4
                  try clear hcv4
                  try clear c5
                  try clear c5b0
                  try clear c6
                  try clear c6b0
                  try clear p6
                  try clear c7
                  try clear p7
                  try clear q7
                  try clear hx7
                  try clear c9
                  try clear c10
                  try clear c12
                  try clear c12b0
                  try clear c12b1
                  try clear c13
                  try clear c13b0
                  try clear c14
                  try clear c14b0
                  try clear p15
                  try clear q15
                  try clear hx15
                  try clear c16
                  try clear c16b0
                  try clear c16b1
                  try clear c17
                  try clear c19
                  try clear c19b0
                  try clear c20
                  try clear c20b0
                  try clear c21
                  try clear p21
                  try clear q21
                  try clear hx21
                  try clear c23
                  try clear c25
                  try clear c25b0
                  try clear c25b1
                  try clear c27
                  try clear c27b0
                  try clear c28
                  try clear c28b0
                  try clear p29
                  try clear q29
                  try clear hx29
                  try clear c30
                  try clear c30b0
                  try clear c30b1
                  try clear p31
                  try clear q31
                  try clear hx31
                  try clear c32
                  try clear c34
                  try clear c34b0
                  try clear c36
                  try clear c36b0
                  try clear p37
                  try clear q37
                  try clear hx37
                  try clear c38
                  try clear c38b0
                  try clear c38b1
                  try clear p39
                  try clear q39
                  try clear hx39
                  try clear c41
                  try clear p1
                  try clear p15
                  try clear p2
                  try clear p21
                  try clear p29
                  try clear p3
                  try clear p31
                  try clear p37
                  try clear p39
                  try clear p6
                  try clear p7
                  try clear q1
                  try clear q15
                  try clear q2
                  try clear q21
                  try clear q29
                  try clear q3
                  try clear q31
                  try clear q37
                  try clear q39
                  try clear q7
                  obtain ⟨kq, x9_39, rfl, HA, HJ39, ⟨mc39, rfl⟩⟩ := hcut
                  cases kq with
                  | zero => exact absurd HA.out (by simp [abridgerref1_jnumber.j7])
                  | succ kj39 =>
                   have H := HA.out
                   clear HA
                   simp only [abridgerref1_jnumber.j7] at H
                   replace H := Option.bind_eq_some_iff.mp H
                   obtain ⟨t215, A420, H⟩ := H
                   replace H : (if t215 = x9_39 then (some (-1)) else ((abridgerref1_goes.f l0 t215).bind fun t216 => (if t216 = true then (some (-1)) else (some t215)))) = some r := H
                   have A42 := Aside0.mk A420
                   clear A420
                   by_cases c43 : t215 = x9_39
                   ·rw [if_pos c43] at H
                    have c43b0 : (t215 == x9_39) = true := beq_iff_eq.mpr c43
                    have c43b1 : (t215 != x9_39) = false := bne_eq_false_iff_eq.mpr c43
                    clear c43
                    obtain rfl := Option.some.inj H
                    go_wp2_with (first | ((with_reducible refine gate_callee (f := 28) rfl ?_); refine goesL_ (some 100) rfl rfl Try.func28 (by kernel_rfl) rfl #[.string (strOfNums l0), .int .i64 x9_39] rfl (by (try simp only [List.map_toArray, List.map_cons, List.map_nil]); first | done | rfl | (simp only [List.length_drop, List.length_take]; rfl)) ?_; (with_reducible refine (abridgerref1_run.calls kj39 (strOfNums l0) x9_39 t215 _ A42.out).mono ?_); rintro e w' ⟨rfl, ⟨nd, rfl⟩⟩; refine ⟨_, rfl, ?_⟩))
                    go_ret
                    exact ⟨by first | rfl | (simp; done) | (simp [*]; done), by repeat (first | exact Drawn0.refl _ | apply Drawn0.step)⟩
                   ·rw [if_neg c43] at H
                    have c43b0 : (t215 == x9_39) = false := beq_eq_false_iff_ne.mpr c43
                    have c43b1 : (t215 != x9_39) = true := bne_iff_ne.mpr c43
                    replace H := Option.bind_eq_some_iff.mp H
                    obtain ⟨t216, A440, H⟩ := H
                    replace H : (if t216 = true then (some (-1)) else (some t215)) = some r := H
                    have A44 := Aside0.mk A440
                    clear A440
                    by_cases c45 : t216 = true
                    ·subst c45
                     have H1 : (some (-1)) = some r := by rw [if_pos rfl] at H; exact H
                     clear H
                     have H := H1
                     clear H1
                     obtain rfl := Option.some.inj H
                     go_wp2_with (first | ((with_reducible refine gate_callee (f := 28) rfl ?_); refine goesL_ (some 100) rfl rfl Try.func28 (by kernel_rfl) rfl #[.string (strOfNums l0), .int .i64 x9_39] rfl (by (try simp only [List.map_toArray, List.map_cons, List.map_nil]); first | done | rfl | (simp only [List.length_drop, List.length_take]; rfl)) ?_; (with_reducible refine (abridgerref1_run.calls kj39 (strOfNums l0) x9_39 t215 _ A42.out).mono ?_); rintro e w' ⟨rfl, ⟨nd, rfl⟩⟩; refine ⟨_, rfl, ?_⟩) | ((with_reducible refine gate_callee (f := 17) rfl ?_); refine goesL_ (some 106) rfl rfl Try.func17 (by kernel_rfl) rfl #[.slice A0 l0.length c0, .int .i64 t215] rfl (by (try simp only [List.map_toArray, List.map_cons, List.map_nil]); first | done | rfl | (simp only [List.length_drop, List.length_take]; rfl)) ?_; (with_reducible refine (abridgerref1_goes.calls _ _ l0 t215 true _ ?side1 ?side2 A44.out).mono ?_); (case side1 => repeat (first | exact HR0.out | (with_reducible refine Kd.C_alloc ?_ _) | (with_reducible refine Kd.C_drewN ?_ _) | (with_reducible refine Kd.C_drew ?_))); (case side2 => exact HC0.out); rintro e w' ⟨rfl, ⟨nd, rfl⟩⟩; refine ⟨_, rfl, ?_⟩))
                     go_ret
                     exact ⟨by first | rfl | (simp; done) | (simp [*]; done), by repeat (first | exact Drawn0.refl _ | apply Drawn0.step)⟩
                    ·replace c45 := Bool.eq_false_iff.mpr c45
                     subst c45
                     have H1 : (some t215) = some r := by rw [if_neg (show ¬ (false = true) by decide)] at H; exact H
                     clear H
                     have H := H1
                     clear H1
                     obtain rfl := Option.some.inj H
                     go_wp2_with (first | ((with_reducible refine gate_callee (f := 28) rfl ?_); refine goesL_ (some 100) rfl rfl Try.func28 (by kernel_rfl) rfl #[.string (strOfNums l0), .int .i64 x9_39] rfl (by (try simp only [List.map_toArray, List.map_cons, List.map_nil]); first | done | rfl | (simp only [List.length_drop, List.length_take]; rfl)) ?_; (with_reducible refine (abridgerref1_run.calls kj39 (strOfNums l0) x9_39 t215 _ A42.out).mono ?_); rintro e w' ⟨rfl, ⟨nd, rfl⟩⟩; refine ⟨_, rfl, ?_⟩) | ((with_reducible refine gate_callee (f := 17) rfl ?_); refine goesL_ (some 106) rfl rfl Try.func17 (by kernel_rfl) rfl #[.slice A0 l0.length c0, .int .i64 t215] rfl (by (try simp only [List.map_toArray, List.map_cons, List.map_nil]); first | done | rfl | (simp only [List.length_drop, List.length_take]; rfl)) ?_; (with_reducible refine (abridgerref1_goes.calls _ _ l0 t215 false _ ?side1 ?side2 A44.out).mono ?_); (case side1 => repeat (first | exact HR0.out | (with_reducible refine Kd.C_alloc ?_ _) | (with_reducible refine Kd.C_drewN ?_ _) | (with_reducible refine Kd.C_drew ?_))); (case side2 => exact HC0.out); rintro e w' ⟨rfl, ⟨nd, rfl⟩⟩; refine ⟨_, rfl, ?_⟩))
                     go_ret
                     exact ⟨by first | rfl | (simp; done) | (simp [*]; done), by repeat (first | exact Drawn0.refl _ | apply Drawn0.step)⟩
              ·replace c32 := Bool.eq_false_iff.mpr c32
               subst c32
               have H1 : ((abridgerref1_goes.f l0 x7_21).bind fun t217 => (if t217 = true then (some (-1)) else (some x7_21))) = some r := by rw [if_neg (show ¬ (false = true) by decide)] at H; exact H
               clear H
               have H := H1
               clear H1
               replace H := Option.bind_eq_some_iff.mp H
               obtain ⟨t217, A460, H⟩ := H
               replace H : (if t217 = true then (some (-1)) else (some x7_21)) = some r := H
               have A46 := Aside0.mk A460
               clear A460
               by_cases c47 : t217 = true
               ·subst c47
                have H1 : (some (-1)) = some r := by rw [if_pos rfl] at H; exact H
                clear H
                have H := H1
                clear H1
                obtain rfl := Option.some.inj H
                go_wp2_with (first | ((with_reducible refine gate_callee (f := 17) rfl ?_); refine goesL_ (some 106) rfl rfl Try.func17 (by kernel_rfl) rfl #[.slice A0 l0.length c0, .int .i64 x7_21] rfl (by (try simp only [List.map_toArray, List.map_cons, List.map_nil]); first | done | rfl | (simp only [List.length_drop, List.length_take]; rfl)) ?_; (with_reducible refine (abridgerref1_goes.calls _ _ l0 x7_21 true _ ?side1 ?side2 A46.out).mono ?_); (case side1 => repeat (first | exact HR0.out | (with_reducible refine Kd.C_alloc ?_ _) | (with_reducible refine Kd.C_drewN ?_ _) | (with_reducible refine Kd.C_drew ?_))); (case side2 => exact HC0.out); rintro e w' ⟨rfl, ⟨nd, rfl⟩⟩; refine ⟨_, rfl, ?_⟩))
                go_ret
                exact ⟨by first | rfl | (simp; done) | (simp [*]; done), by repeat (first | exact Drawn0.refl _ | apply Drawn0.step)⟩
               ·replace c47 := Bool.eq_false_iff.mpr c47
                subst c47
                have H1 : (some x7_21) = some r := by rw [if_neg (show ¬ (false = true) by decide)] at H; exact H
                clear H
                have H := H1
                clear H1
                obtain rfl := Option.some.inj H
                go_wp2_with (first | ((with_reducible refine gate_callee (f := 17) rfl ?_); refine goesL_ (some 106) rfl rfl Try.func17 (by kernel_rfl) rfl #[.slice A0 l0.length c0, .int .i64 x7_21] rfl (by (try simp only [List.map_toArray, List.map_cons, List.map_nil]); first | done | rfl | (simp only [List.length_drop, List.length_take]; rfl)) ?_; (with_reducible refine (abridgerref1_goes.calls _ _ l0 x7_21 false _ ?side1 ?side2 A46.out).mono ?_); (case side1 => repeat (first | exact HR0.out | (with_reducible refine Kd.C_alloc ?_ _) | (with_reducible refine Kd.C_drewN ?_ _) | (with_reducible refine Kd.C_drew ?_))); (case side2 => exact HC0.out); rintro e w' ⟨rfl, ⟨nd, rfl⟩⟩; refine ⟨_, rfl, ?_⟩))
                go_ret
                exact ⟨by first | rfl | (simp; done) | (simp [*]; done), by repeat (first | exact Drawn0.refl _ | apply Drawn0.step)⟩

end Go.Proofs.Ytlhhibhcoefolaa.Q
