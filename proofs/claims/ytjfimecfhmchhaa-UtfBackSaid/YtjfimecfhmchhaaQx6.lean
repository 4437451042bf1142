-- Written by a program of this session (wip/tools/print2.sh), out of the translation, for this claim. Lean checks it.
import Derived.Test.YtjfimecfhmchhaaQx0
import Derived.Test.YtjfimecfhmchhaaQx1
import Derived.Test.YtjfimecfhmchhaaQx2
import Derived.Test.YtjfimecfhmchhaaQx4
namespace Go.Proofs.Ytjfimecfhmchhaa.Q
open Go.RowKit Go.Proofs.YtjfimecfhmchhaaW.PrintWords Go.Proofs.YtjfimecfhmchhaaW.PrintLast Go.Proofs.YtjfimecfhmchhaaW.PrintMore
attribute [local go_sem] max2_int min2_int max_two min_two max_three min_three max_four min_four   -- for this text's walks alone
set_option linter.unusedVariables false
set_option linter.unusedSimpArgs false

/-! ### abridgerlaw1_UtfBack: function 5 -/
mutual
def abridgerlaw1_UtfBack.j0 : Nat → List Int → Int → Bool → Bool → Option (Bool)
  | 0, _, _, _, _ => none
  | k + 1, x0, x1, x5, x30 => if x30 = true then (some x5) else (abridgerlaw1_UtfBack.l0 k x0 x1 ([] : List Int) 0)
def abridgerlaw1_UtfBack.l0 : Nat → List Int → Int → List Int → Int → Option (Bool)
  | 0, _, _, _, _ => none
  | k + 1, x0, x1, x6, x7 => if x7 < (x0.length : Int) then (if 0 ≤ x7 then (if (rd x0 x7) < 0 then (abridgerlaw1_UtfBack.j2 k x0 x1 x6 x7 true) else (if (rd x0 x7) > 1114111 then (abridgerlaw1_UtfBack.j2 k x0 x1 x6 x7 true) else (if (rd x0 x7) ≥ 55296 then (abridgerlaw1_UtfBack.j2 k x0 x1 x6 x7 (decide ((rd x0 x7) < 57344))) else (abridgerlaw1_UtfBack.j2 k x0 x1 x6 x7 false)))) else (none)) else (abridgerlaw1_UtfBack.l1 k x0 x6 0 0)
def abridgerlaw1_UtfBack.j2 : Nat → List Int → Int → List Int → Int → Bool → Option (Bool)
  | 0, _, _, _, _, _ => none
  | k + 1, x0, x1, x6, x7, x63 => if x63 = true then (some true) else (if 0 ≤ x7 then (if x7 < (x0.length : Int) then ((utf_Put.f k ([] : List Int) (rd x0 x7)).bind fun t220 => (if (rd x0 x7) ≥ 65536 then (if (wrap64 ((t220.length : Int) + 1)) = 0 then (none) else (if 0 ≤ (Int.tmod (Int.tmod x1 4) (wrap64 ((t220.length : Int) + 1))) then (if (Int.tmod (Int.tmod x1 4) (wrap64 ((t220.length : Int) + 1))) ≤ (t220.length : Int) then ((utf_Valid.f k (t220.take ((Int.tmod (Int.tmod x1 4) (wrap64 ((t220.length : Int) + 1))) : Int).toNat)).bind fun bt228 => (if (t220.length : Int) = 4 then (if (bt228.2 != ((Int.tmod x1 4) == 0)) = true then (some false) else (if x6.length + t220.length < 140737488355328 then (abridgerlaw1_UtfBack.l0 k x0 x1 (x6 ++ t220) (wrap64 (x7 + 1))) else (none))) else (some false))) else (none)) else (none))) else (if (rd x0 x7) ≥ 2048 then (if (wrap64 ((t220.length : Int) + 1)) = 0 then (none) else (if 0 ≤ (Int.tmod (Int.tmod x1 3) (wrap64 ((t220.length : Int) + 1))) then (if (Int.tmod (Int.tmod x1 3) (wrap64 ((t220.length : Int) + 1))) ≤ (t220.length : Int) then ((utf_Valid.f k (t220.take ((Int.tmod (Int.tmod x1 3) (wrap64 ((t220.length : Int) + 1))) : Int).toNat)).bind fun bt238 => (if (t220.length : Int) = 3 then (if (bt238.2 != ((Int.tmod x1 3) == 0)) = true then (some false) else (if x6.length + t220.length < 140737488355328 then (abridgerlaw1_UtfBack.l0 k x0 x1 (x6 ++ t220) (wrap64 (x7 + 1))) else (none))) else (some false))) else (none)) else (none))) else (if (rd x0 x7) ≥ 128 then (if (wrap64 ((t220.length : Int) + 1)) = 0 then (none) else (if 0 ≤ (Int.tmod (Int.tmod x1 2) (wrap64 ((t220.length : Int) + 1))) then (if (Int.tmod (Int.tmod x1 2) (wrap64 ((t220.length : Int) + 1))) ≤ (t220.length : Int) then ((utf_Valid.f k (t220.take ((Int.tmod (Int.tmod x1 2) (wrap64 ((t220.length : Int) + 1))) : Int).toNat)).bind fun bt248 => (if (t220.length : Int) = 2 then (if (bt248.2 != ((Int.tmod x1 2) == 0)) = true then (some false) else (if x6.length + t220.length < 140737488355328 then (abridgerlaw1_UtfBack.l0 k x0 x1 (x6 ++ t220) (wrap64 (x7 + 1))) else (none))) else (some false))) else (none)) else (none))) else (if (wrap64 ((t220.length : Int) + 1)) = 0 then (none) else (if 0 ≤ (t220.length : Int) then ((utf_Valid.f k (t220.take 0)).bind fun bt257 => (if (t220.length : Int) = 1 then (if bt257.2 = true then (if x6.length + t220.length < 140737488355328 then (abridgerlaw1_UtfBack.l0 k x0 x1 (x6 ++ t220) (wrap64 (x7 + 1))) else (none)) else (some false)) else (some false))) else (none))))))) else (none)) else (none))
def abridgerlaw1_UtfBack.l1 : Nat → List Int → List Int → Int → Int → Option (Bool)
  | 0, _, _, _, _ => none
  | k + 1, x0, x6, x12, x13 => if x13 < (x0.length : Int) then ((utf_Next.f k x6 x12).bind fun bt262 => (if bt262.2.2 = true then (if 0 ≤ x13 then (if bt262.1 = (rd x0 x13) then (if bt262.2.1 < 1 then (some false) else (abridgerlaw1_UtfBack.l1 k x0 x6 (wrap64 (x12 + bt262.2.1)) (wrap64 (x13 + 1)))) else (some false)) else (none)) else (some false))) else ((utf_Valid.f k x6).bind fun bt266 => (if x12 = (x6.length : Int) then (if bt266.2 = true then (some (bt266.1 == x12)) else (some false)) else (some false)))
end
def abridgerlaw1_UtfBack.f (k : Nat) (l0 : List Int) (a1 : Int) : Option (Bool) := (abridgerlaw1_alive.f k).bind fun t214 => (if t214 = true then (if (l0.length : Int) > 60 then (abridgerlaw1_UtfBack.j0 k l0 a1 t214 true) else (abridgerlaw1_UtfBack.j0 k l0 a1 t214 (decide (a1 < 0)))) else (abridgerlaw1_UtfBack.j0 k l0 a1 t214 true))
theorem abridgerlaw1_UtfBack.mono_l : ∀ k, (∀ y0 y1 y2 y3, LeO (abridgerlaw1_UtfBack.j0 k y0 y1 y2 y3) (abridgerlaw1_UtfBack.j0 (k + 1) y0 y1 y2 y3)) ∧ (∀ y0 y1 y2 y3, LeO (abridgerlaw1_UtfBack.l0 k y0 y1 y2 y3) (abridgerlaw1_UtfBack.l0 (k + 1) y0 y1 y2 y3)) ∧ (∀ y0 y1 y2 y3 y4, LeO (abridgerlaw1_UtfBack.j2 k y0 y1 y2 y3 y4) (abridgerlaw1_UtfBack.j2 (k + 1) y0 y1 y2 y3 y4)) ∧ (∀ y0 y1 y2 y3, LeO (abridgerlaw1_UtfBack.l1 k y0 y1 y2 y3) (abridgerlaw1_UtfBack.l1 (k + 1) y0 y1 y2 y3))
  | 0 => ⟨fun _ _ _ _ r h => by simp [abridgerlaw1_UtfBack.j0] at h, fun _ _ _ _ r h => by simp [abridgerlaw1_UtfBack.l0] at h, fun _ _ _ _ _ r h => by simp [abridgerlaw1_UtfBack.j2] at h, fun _ _ _ _ r h => by simp [abridgerlaw1_UtfBack.l1] at h⟩
  | k + 1 => by
    obtain ⟨ih0, ih1, ih2, ih3⟩ := abridgerlaw1_UtfBack.mono_l k
    refine ⟨?_, ?_, ?_, ?_⟩
    · intro y0 y1 y2 y3
      unfold abridgerlaw1_UtfBack.j0
      repeat' first
      | (with_reducible exact ih0 _ _ _ _)
      | (with_reducible exact ih1 _ _ _ _)
      | (with_reducible exact ih2 _ _ _ _ _)
      | (with_reducible exact ih3 _ _ _ _)
      | (with_reducible exact abridgerlaw1_alive.mono _)
      | (with_reducible exact utf_Next.mono _ _ _)
      | (with_reducible exact utf_Put.mono _ _ _)
      | (with_reducible exact utf_Valid.mono _ _)
      | (with_reducible exact LeO.refl _)
      | (with_reducible exact LeO.none _)
      | (with_reducible refine LeO.ite ?_ ?_)
      | (with_reducible refine LeO.bind ?_ (fun _ => ?_))
      | exact ih0 _ _ _ _
      | exact ih1 _ _ _ _
      | exact ih2 _ _ _ _ _
      | exact ih3 _ _ _ _
      | exact abridgerlaw1_alive.mono _
      | exact utf_Next.mono _ _ _
      | exact utf_Put.mono _ _ _
      | exact utf_Valid.mono _ _
      | exact LeO.none _
      | refine LeO.ite ?_ ?_
      | refine LeO.bind ?_ (fun _ => ?_)
    · intro y0 y1 y2 y3
      unfold abridgerlaw1_UtfBack.l0
      repeat' first
      | (with_reducible exact ih0 _ _ _ _)
      | (with_reducible exact ih1 _ _ _ _)
      | (with_reducible exact ih2 _ _ _ _ _)
      | (with_reducible exact ih3 _ _ _ _)
      | (with_reducible exact abridgerlaw1_alive.mono _)
      | (with_reducible exact utf_Next.mono _ _ _)
      | (with_reducible exact utf_Put.mono _ _ _)
      | (with_reducible exact utf_Valid.mono _ _)
      | (with_reducible exact LeO.refl _)
      | (with_reducible exact LeO.none _)
      | (with_reducible refine LeO.ite ?_ ?_)
      | (with_reducible refine LeO.bind ?_ (fun _ => ?_))
      | exact ih0 _ _ _ _
      | exact ih1 _ _ _ _
      | exact ih2 _ _ _ _ _
      | exact ih3 _ _ _ _
      | exact abridgerlaw1_alive.mono _
      | exact utf_Next.mono _ _ _
      | exact utf_Put.mono _ _ _
      | exact utf_Valid.mono _ _
      | exact LeO.none _
      | refine LeO.ite ?_ ?_
      | refine LeO.bind ?_ (fun _ => ?_)
    · intro y0 y1 y2 y3 y4
      unfold abridgerlaw1_UtfBack.j2
      repeat' first
      | (with_reducible exact ih0 _ _ _ _)
      | (with_reducible exact ih1 _ _ _ _)
      | (with_reducible exact ih2 _ _ _ _ _)
      | (with_reducible exact ih3 _ _ _ _)
      | (with_reducible exact abridgerlaw1_alive.mono _)
      | (with_reducible exact utf_Next.mono _ _ _)
      | (with_reducible exact utf_Put.mono _ _ _)
      | (with_reducible exact utf_Valid.mono _ _)
      | (with_reducible exact LeO.refl _)
      | (with_reducible exact LeO.none _)
      | (with_reducible refine LeO.ite ?_ ?_)
      | (with_reducible refine LeO.bind ?_ (fun _ => ?_))
      | exact ih0 _ _ _ _
      | exact ih1 _ _ _ _
      | exact ih2 _ _ _ _ _
      | exact ih3 _ _ _ _
      | exact abridgerlaw1_alive.mono _
      | exact utf_Next.mono _ _ _
      | exact utf_Put.mono _ _ _
      | exact utf_Valid.mono _ _
      | exact LeO.none _
      | refine LeO.ite ?_ ?_
      | refine LeO.bind ?_ (fun _ => ?_)
    · intro y0 y1 y2 y3
      unfold abridgerlaw1_UtfBack.l1
      repeat' first
      | (with_reducible exact ih0 _ _ _ _)
      | (with_reducible exact ih1 _ _ _ _)
      | (with_reducible exact ih2 _ _ _ _ _)
      | (with_reducible exact ih3 _ _ _ _)
      | (with_reducible exact abridgerlaw1_alive.mono _)
      | (with_reducible exact utf_Next.mono _ _ _)
      | (with_reducible exact utf_Put.mono _ _ _)
      | (with_reducible exact utf_Valid.mono _ _)
      | (with_reducible exact LeO.refl _)
      | (with_reducible exact LeO.none _)
      | (with_reducible refine LeO.ite ?_ ?_)
      | (with_reducible refine LeO.bind ?_ (fun _ => ?_))
      | exact ih0 _ _ _ _
      | exact ih1 _ _ _ _
      | exact ih2 _ _ _ _ _
      | exact ih3 _ _ _ _
      | exact abridgerlaw1_alive.mono _
      | exact utf_Next.mono _ _ _
      | exact utf_Put.mono _ _ _
      | exact utf_Valid.mono _ _
      | exact LeO.none _
      | refine LeO.ite ?_ ?_
      | refine LeO.bind ?_ (fun _ => ?_)
theorem abridgerlaw1_UtfBack.mono : ∀ a0 a1 k, LeO (abridgerlaw1_UtfBack.f k a0 a1) (abridgerlaw1_UtfBack.f (k + 1) a0 a1) := by
  intro a0 a1 k
  obtain ⟨ih0, ih1, ih2, ih3⟩ := abridgerlaw1_UtfBack.mono_l k
  unfold abridgerlaw1_UtfBack.f
  repeat' first
      | (with_reducible exact ih0 _ _ _ _)
      | (with_reducible exact ih1 _ _ _ _)
      | (with_reducible exact ih2 _ _ _ _ _)
      | (with_reducible exact ih3 _ _ _ _)
      | (with_reducible exact abridgerlaw1_alive.mono _)
      | (with_reducible exact utf_Next.mono _ _ _)
      | (with_reducible exact utf_Put.mono _ _ _)
      | (with_reducible exact utf_Valid.mono _ _)
      | (with_reducible exact LeO.refl _)
      | (with_reducible exact LeO.none _)
      | (with_reducible refine LeO.ite ?_ ?_)
      | (with_reducible refine LeO.bind ?_ (fun _ => ?_))
      | exact ih0 _ _ _ _
      | exact ih1 _ _ _ _
      | exact ih2 _ _ _ _ _
      | exact ih3 _ _ _ _
      | exact abridgerlaw1_alive.mono _
      | exact utf_Next.mono _ _ _
      | exact utf_Put.mono _ _ _
      | exact utf_Valid.mono _ _
      | exact LeO.none _
      | refine LeO.ite ?_ ?_
      | refine LeO.bind ?_ (fun _ => ?_)
set_option maxHeartbeats 8000000 in
set_option maxRecDepth 100000 in
theorem abridgerlaw1_UtfBack.calls (k : Nat) (A0 : Option Addr) (c0 : Nat) (l0 : List Int) (a1 : Int) (r : Bool) (w : World) (hr0 : Kd.C (Kd.int .i64) w A0 l0.length l0) (hc0 : l0.length ≤ c0) (h : abridgerlaw1_UtfBack.f k l0 a1 = some r) :
    Calls Try.prog 5 #[.slice A0 l0.length c0, .int .i64 a1] w fun e w' => e = .returned (.bool r) ∧ Below w.heap.size w w' := by
  have HR0 := Aside0.mk hr0
  have HC0 := Aside0.mk hc0
  clear hr0 hc0
  have HB := Aside0.mk (Below.refl w.heap.size w)
  have H : ((abridgerlaw1_alive.f k).bind fun t214 => (if t214 = true then (if (l0.length : Int) > 60 then (abridgerlaw1_UtfBack.j0 k l0 a1 t214 true) else (abridgerlaw1_UtfBack.j0 k l0 a1 t214 (decide (a1 < 0)))) else (abridgerlaw1_UtfBack.j0 k l0 a1 t214 true))) = some r := h
  clear h
  replace H := Option.bind_eq_some_iff.mp H
  obtain ⟨t214, A30, H⟩ := H
  replace H : (if t214 = true then (if (l0.length : Int) > 60 then (abridgerlaw1_UtfBack.j0 k l0 a1 t214 true) else (abridgerlaw1_UtfBack.j0 k l0 a1 t214 (decide (a1 < 0)))) else (abridgerlaw1_UtfBack.j0 k l0 a1 t214 true)) = some r := H
  have A3 := Aside0.mk A30
  clear A30
  have HC4 := Aside0.mk H
  clear H
  go_enter Try.func5, Try.ntmps5
  go_upto_region 2 with (first | ((with_reducible refine gate_callee (f := 8) rfl ?_); refine goesL_ (some 19) rfl rfl Try.func8 (by kernel_rfl) rfl #[] rfl (by (try simp only [List.map_toArray, List.map_cons, List.map_nil]); first | done | rfl | (simp only [List.length_drop, List.length_take]; rfl)) ?_; (with_reducible refine (abridgerlaw1_alive.calls k  t214 _ A3.out).mono ?_); rintro e w5 ⟨rfl, hb⟩; refine ⟨_, rfl, ?_⟩; have n0_ := Aside0.mk (below_step (by repeat (first | (with_reducible first | exact HB.out | apply below_alloc | apply pw_below_drewN | apply below_drew1) | exact HB.out)) hb); clear HB; have HB := n0_; clear n0_; (try clear hb); (try clear hb2); (try clear hk); (try clear hi)))
  (try simp only [Act.put, List.setIfInBounds_toArray, List.set_cons_zero, List.set_cons_succ])
  go_cut [30] (fun v30 wc => ∃ (kq : Nat) (x30_3 : Bool), v30 = .bool x30_3 ∧ Aside0 (abridgerlaw1_UtfBack.j0 kq l0 a1 t214 x30_3 = some r) ∧ Aside0 (kq ≤ k) ∧ Aside0 (Below w.heap.size w wc))
  case first =>
    have H := HC4.out
    clear HC4
    by_cases c6 : t214 = true
    · subst c6
      have H1 : (if (l0.length : Int) > 60 then (abridgerlaw1_UtfBack.j0 k l0 a1 true true) else (abridgerlaw1_UtfBack.j0 k l0 a1 true (decide (a1 < 0)))) = some r := by rw [if_pos rfl] at H; exact H
      clear H
      have H := H1
      clear H1
      by_cases c7 : (l0.length : Int) > 60
      · rw [if_pos c7] at H
        have c7b0 : decide (60 < (l0.length : Int)) = true := decide_eq_true c7
        have c7b1 : decide (60 < l0.length) = true := decide_eq_true (by omega)
        clear c7
        (first | rw [c7b0] | (simp only [i64_w, i32_w]; rw [c7b0]) | skip)
        have H' := Aside0.mk H
        clear H
        go_wp2
        go_meet
        case rel => exact ⟨_, (true), (by first | rfl | (simp; done) | (simp [*]; done)), H', ⟨by first | omega | exact Nat.le_refl _⟩, ⟨by repeat (first | (with_reducible first | exact HB.out | apply below_alloc | apply pw_below_drewN | apply below_drew1) | exact HB.out)⟩⟩
      · rw [if_neg c7] at H
        have c7b0 : decide (60 < (l0.length : Int)) = false := decide_eq_false c7
        have c7b1 : decide (60 < l0.length) = false := decide_eq_false (by omega)
        clear c7
        (first | rw [c7b0] | (simp only [i64_w, i32_w]; rw [c7b0]) | skip)
        have H' := Aside0.mk H
        clear H
        go_wp2
        go_meet
        case rel => exact ⟨_, (decide (a1 < 0)), (by first | rfl | (simp; done) | (simp [*]; done)), H', ⟨by first | omega | exact Nat.le_refl _⟩, ⟨by repeat (first | (with_reducible first | exact HB.out | apply below_alloc | apply pw_below_drewN | apply below_drew1) | exact HB.out)⟩⟩
    · replace c6 := Bool.eq_false_iff.mpr c6
      subst c6
      have H1 : (abridgerlaw1_UtfBack.j0 k l0 a1 false true) = some r := by rw [if_neg (show ¬ (false = true) by decide)] at H; exact H
      clear H
      have H := H1
      clear H1
      have H' := Aside0.mk H
      clear H
      go_wp2
      go_meet
      case rel => exact ⟨_, (true), (by first | rfl | (simp; done) | (simp [*]; done)), H', ⟨by first | omega | exact Nat.le_refl _⟩, ⟨by repeat (first | (with_reducible first | exact HB.out | apply below_alloc | apply pw_below_drewN | apply below_drew1) | exact HB.out)⟩⟩
  case rest =>
    clear HC4
    try clear p2
    try clear c5
    try clear c6
    try clear c7
    try clear c7b0
    try clear c7b1
    obtain ⟨kq, x30_3, rfl, HA, HJ3, HB⟩ := hcut
    cases kq with
    | zero => exact absurd HA.out (by simp [abridgerlaw1_UtfBack.j0])
    | succ kj3 =>
      have H := HA.out
      clear HA
      simp only [abridgerlaw1_UtfBack.j0] at H
      by_cases c8 : x30_3 = true
      · subst c8
        have H1 : (some t214) = some r := by rw [if_pos rfl] at H; exact H
        clear H
        have H := H1
        clear H1
        obtain rfl := Option.some.inj H
        go_wp2
        go_ret
        exact ⟨by first | rfl | (simp [errW_none, errW_some] <;> rfl) | (simp [*, errW_none, errW_some] <;> rfl), by repeat (first | (with_reducible first | exact HB.out | apply below_alloc | apply pw_below_drewN | apply below_drew1) | exact HB.out)⟩
      · replace c8 := Bool.eq_false_iff.mpr c8
        subst c8
        have H1 : (abridgerlaw1_UtfBack.l0 kj3 l0 a1 ([] : List Int) 0) = some r := by rw [if_neg (show ¬ (false = true) by decide)] at H; exact H
        clear H
        have H := H1
        clear H1
        have H' := Aside0.mk H
        clear H
        go_wp2
        go_loopg [6, 7] kj3 (fun kq v6 v7 w' => ∃ (x6_2 : List Int) (x7_2 : Int), v7 = .int .i64 x7_2 ∧ Aside0 (abridgerlaw1_UtfBack.l0 kq l0 a1 x6_2 x7_2 = some r) ∧ Aside0 (kq ≤ kj3) ∧ Aside0 (Kd.R (Kd.int .u8) 5 w' w.heap.size (fun _ => True) v6 x6_2) ∧ Aside0 (Below w.heap.size w w'))
        case atStart => exact ⟨(([] : List Int)), (0), (by first | rfl | (simp; done) | (simp [*]; done)), H', ⟨Nat.le_refl _⟩, ⟨by first | exact Kd.R_nil _ _ _ _ _ | exact Kd.N_nil _ _ _ _ _ | exact Kd.V_nil _ _ _ _ _ | exact Kd.Q_nil _ _ _ _ _ | exact Kd.S_nil _ _ _ _ _⟩, ⟨by repeat (first | (with_reducible first | exact HB.out | apply below_alloc | apply pw_below_drewN | apply below_drew1) | exact HB.out)⟩⟩
        case round =>
          clear H'
          try clear p2
          try clear c5
          try clear c6
          try clear c7
          try clear c7b0
          try clear c7b1
          try clear c8
          try clear p2
          obtain ⟨x6_2, x7_2, rfl, HA, HK2, HO_6, HB⟩ := hrel
          cases gk with
          | zero => exact absurd HA.out (by simp [abridgerlaw1_UtfBack.l0])
          | succ k2 =>
            have H := HA.out
            clear HA
            simp only [abridgerlaw1_UtfBack.l0] at H
            by_cases c9 : x7_2 < (l0.length : Int)
            · rw [if_pos c9] at H
              have c9b0 : decide (x7_2 < (l0.length : Int)) = true := decide_eq_true c9
              clear c9
              have HC10 := Aside0.mk H
              clear H
              go_upto_region 8 with (fail)
              go_cut [63] (fun v63 wc => ∃ (kq : Nat) (x63_9 : Bool), v63 = .bool x63_9 ∧ Aside0 (abridgerlaw1_UtfBack.j2 kq l0 a1 x6_2 x7_2 x63_9 = some r) ∧ Aside0 (kq ≤ k2) ∧ Aside0 (Kd.R (Kd.int .u8) 5 wc w.heap.size (fun _ => True) u6 x6_2) ∧ Aside0 (Below w.heap.size w wc))
              case first =>
                have H := HC10.out
                clear HC10
                by_cases c11 : 0 ≤ x7_2
                · rw [if_pos c11] at H
                  have c11b0 : decide (0 ≤ x7_2) = true := decide_eq_true c11
                  clear c11
                  (first | rw [c11b0] | (simp only [i64_w, i32_w]; rw [c11b0]) | skip)
                  by_cases c12 : (rd l0 x7_2) < 0
                  · rw [if_pos c12] at H
                    have c12b0 : decide ((rd l0 x7_2) < 0) = true := decide_eq_true c12
                    clear c12
                    have H' := Aside0.mk H
                    clear H
                    have p215 : 0 ≤ (x7_2 : Int) := of_decide_eq_true (by first | (with_reducible assumption) | assumption)
                    have q215 : x7_2 < (l0.length : Int) := of_decide_eq_true (by first | (with_reducible assumption) | assumption)
                    obtain ⟨ad215, e215, hx215_0⟩ := Kd.at_int HR0.out x7_2 p215 q215
                    cases e215
                    replace hx215_0 := (HB.out.cell (World.block_lt_of_cell? w _ hx215_0)).trans hx215_0
                    replace p215 := eq_true p215
                    replace q215 := eq_true q215
                    go_wp2
                    go_meet
                    case rel => exact ⟨_, (true), (by first | rfl | (simp; done) | (simp [*]; done)), H', ⟨by have := HJ3.out; have := HK2.out; first | omega | exact Nat.le_refl _⟩, ⟨by (with_reducible repeat (first | apply Kd.R_alloc | apply Kd.R_drewN | apply Kd.R_drew)); exact HO_6.out⟩, ⟨by repeat (first | (with_reducible first | exact HB.out | apply below_alloc | apply pw_below_drewN | apply below_drew1) | exact HB.out)⟩⟩
                  · rw [if_neg c12] at H
                    have c12b0 : decide ((rd l0 x7_2) < 0) = false := decide_eq_false c12
                    clear c12
                    by_cases c13 : (rd l0 x7_2) > 1114111
                    · rw [if_pos c13] at H
                      have c13b0 : decide (1114111 < (rd l0 x7_2)) = true := decide_eq_true c13
                      clear c13
                      have H' := Aside0.mk H
                      clear H
                      have p215 : 0 ≤ (x7_2 : Int) := of_decide_eq_true (by first | (with_reducible assumption) | assumption)
                      have q215 : x7_2 < (l0.length : Int) := of_decide_eq_true (by first | (with_reducible assumption) | assumption)
                      obtain ⟨ad215, e215, hx215_0⟩ := Kd.at_int HR0.out x7_2 p215 q215
                      cases e215
                      replace hx215_0 := (HB.out.cell (World.block_lt_of_cell? w _ hx215_0)).trans hx215_0
                      replace p215 := eq_true p215
                      replace q215 := eq_true q215
                      have p216 : 0 ≤ (x7_2 : Int) := of_decide_eq_true (by first | (with_reducible assumption) | assumption)
                      have q216 : x7_2 < (l0.length : Int) := of_decide_eq_true (by first | (with_reducible assumption) | assumption)
                      obtain ⟨ad216, e216, hx216_0⟩ := Kd.at_int HR0.out x7_2 p216 q216
                      obtain rfl : ad215 = ad216 := (by injection e216)
                      replace hx216_0 := (HB.out.cell (World.block_lt_of_cell? w _ hx216_0)).trans hx216_0
                      replace p216 := eq_true p216
                      replace q216 := eq_true q216
                      go_wp2
                      go_meet
                      case rel => exact ⟨_, (true), (by first | rfl | (simp; done) | (simp [*]; done)), H', ⟨by have := HJ3.out; have := HK2.out; first | omega | exact Nat.le_refl _⟩, ⟨by (with_reducible repeat (first | apply Kd.R_alloc | apply Kd.R_drewN | apply Kd.R_drew)); exact HO_6.out⟩, ⟨by repeat (first | (with_reducible first | exact HB.out | apply below_alloc | apply pw_below_drewN | apply below_drew1) | exact HB.out)⟩⟩
                    · rw [if_neg c13] at H
                      have c13b0 : decide (1114111 < (rd l0 x7_2)) = false := decide_eq_false c13
                      clear c13
                      by_cases c14 : (rd l0 x7_2) ≥ 55296
                      · rw [if_pos c14] at H
                        have c14b0 : decide (55296 ≤ (rd l0 x7_2)) = true := decide_eq_true c14
                        clear c14
                        have H' := Aside0.mk H
                        clear H
                        have p215 : 0 ≤ (x7_2 : Int) := of_decide_eq_true (by first | (with_reducible assumption) | assumption)
                        have q215 : x7_2 < (l0.length : Int) := of_decide_eq_true (by first | (with_reducible assumption) | assumption)
                        obtain ⟨ad215, e215, hx215_0⟩ := Kd.at_int HR0.out x7_2 p215 q215
                        cases e215
                        replace hx215_0 := (HB.out.cell (World.block_lt_of_cell? w _ hx215_0)).trans hx215_0
                        replace p215 := eq_true p215
                        replace q215 := eq_true q215
                        have p216 : 0 ≤ (x7_2 : Int) := of_decide_eq_true (by first | (with_reducible assumption) | assumption)
                        have q216 : x7_2 < (l0.length : Int) := of_decide_eq_true (by first | (with_reducible assumption) | assumption)
                        obtain ⟨ad216, e216, hx216_0⟩ := Kd.at_int HR0.out x7_2 p216 q216
                        obtain rfl : ad215 = ad216 := (by injection e216)
                        replace hx216_0 := (HB.out.cell (World.block_lt_of_cell? w _ hx216_0)).trans hx216_0
                        replace p216 := eq_true p216
                        replace q216 := eq_true q216
                        have p217 : 0 ≤ (x7_2 : Int) := of_decide_eq_true (by first | (with_reducible assumption) | assumption)
                        have q217 : x7_2 < (l0.length : Int) := of_decide_eq_true (by first | (with_reducible assumption) | assumption)
                        obtain ⟨ad217, e217, hx217_0⟩ := Kd.at_int HR0.out x7_2 p217 q217
                        obtain rfl : ad215 = ad217 := (by injection e217)
                        replace hx217_0 := (HB.out.cell (World.block_lt_of_cell? w _ hx217_0)).trans hx217_0
                        replace p217 := eq_true p217
                        replace q217 := eq_true q217
                        have p218 : 0 ≤ (x7_2 : Int) := of_decide_eq_true (by first | (with_reducible assumption) | assumption)
                        have q218 : x7_2 < (l0.length : Int) := of_decide_eq_true (by first | (with_reducible assumption) | assumption)
                        obtain ⟨ad218, e218, hx218_0⟩ := Kd.at_int HR0.out x7_2 p218 q218
                        obtain rfl : ad215 = ad218 := (by injection e218)
                        replace hx218_0 := (HB.out.cell (World.block_lt_of_cell? w _ hx218_0)).trans hx218_0
                        replace p218 := eq_true p218
                        replace q218 := eq_true q218
                        go_wp2
                        go_meet
                        case rel => exact ⟨_, (decide ((rd l0 x7_2) < 57344)), (by first | rfl | (simp; done) | (simp [*]; done)), H', ⟨by have := HJ3.out; have := HK2.out; first | omega | exact Nat.le_refl _⟩, ⟨by (with_reducible repeat (first | apply Kd.R_alloc | apply Kd.R_drewN | apply Kd.R_drew)); exact HO_6.out⟩, ⟨by repeat (first | (with_reducible first | exact HB.out | apply below_alloc | apply pw_below_drewN | apply below_drew1) | exact HB.out)⟩⟩
                      · rw [if_neg c14] at H
                        have c14b0 : decide (55296 ≤ (rd l0 x7_2)) = false := decide_eq_false c14
                        clear c14
                        have H' := Aside0.mk H
                        clear H
                        have p215 : 0 ≤ (x7_2 : Int) := of_decide_eq_true (by first | (with_reducible assumption) | assumption)
                        have q215 : x7_2 < (l0.length : Int) := of_decide_eq_true (by first | (with_reducible assumption) | assumption)
                        obtain ⟨ad215, e215, hx215_0⟩ := Kd.at_int HR0.out x7_2 p215 q215
                        cases e215
                        replace hx215_0 := (HB.out.cell (World.block_lt_of_cell? w _ hx215_0)).trans hx215_0
                        replace p215 := eq_true p215
                        replace q215 := eq_true q215
                        have p216 : 0 ≤ (x7_2 : Int) := of_decide_eq_true (by first | (with_reducible assumption) | assumption)
                        have q216 : x7_2 < (l0.length : Int) := of_decide_eq_true (by first | (with_reducible assumption) | assumption)
                        obtain ⟨ad216, e216, hx216_0⟩ := Kd.at_int HR0.out x7_2 p216 q216
                        obtain rfl : ad215 = ad216 := (by injection e216)
                        replace hx216_0 := (HB.out.cell (World.block_lt_of_cell? w _ hx216_0)).trans hx216_0
                        replace p216 := eq_true p216
                        replace q216 := eq_true q216
                        have p217 : 0 ≤ (x7_2 : Int) := of_decide_eq_true (by first | (with_reducible assumption) | assumption)
                        have q217 : x7_2 < (l0.length : Int) := of_decide_eq_true (by first | (with_reducible assumption) | assumption)
                        obtain ⟨ad217, e217, hx217_0⟩ := Kd.at_int HR0.out x7_2 p217 q217
                        obtain rfl : ad215 = ad217 := (by injection e217)
                        replace hx217_0 := (HB.out.cell (World.block_lt_of_cell? w _ hx217_0)).trans hx217_0
                        replace p217 := eq_true p217
                        replace q217 := eq_true q217
                        go_wp2
                        go_meet
                        case rel => exact ⟨_, (false), (by first | rfl | (simp; done) | (simp [*]; done)), H', ⟨by have := HJ3.out; have := HK2.out; first | omega | exact Nat.le_refl _⟩, ⟨by (with_reducible repeat (first | apply Kd.R_alloc | apply Kd.R_drewN | apply Kd.R_drew)); exact HO_6.out⟩, ⟨by repeat (first | (with_reducible first | exact HB.out | apply below_alloc | apply pw_below_drewN | apply below_drew1) | exact HB.out)⟩⟩
                · rw [if_neg c11] at H
                  exact absurd H (by simp)
              case rest =>
                clear HC10
                try clear c1
                try clear p2
                try clear q2
                try clear hx2
                try clear c5
                try clear c6
                try clear c7
                try clear c7b0
                try clear c7b1
                try clear c8
                try clear c9
                try clear c9b0
                try clear c11
                try clear c11b0
                try clear c12
                try clear c12b0
                try clear c13
                try clear c13b0
                try clear c14
                try clear c14b0
                try clear hx215_0
                try clear hx216_0
                try clear hx217_0
                try clear hx218_0
                try clear p2
                try clear p215
                try clear p216
                try clear p217
                try clear p218
                try clear q215
                try clear q216
                try clear q217
                try clear q218
                obtain ⟨kq, x63_9, rfl, HA, HJ9, HO_6, HB⟩ := hcut
                cases kq with
                | zero => exact absurd HA.out (by simp [abridgerlaw1_UtfBack.j2])
                | succ kj9 =>
                  have H := HA.out
                  clear HA
                  simp only [abridgerlaw1_UtfBack.j2] at H
                  by_cases c15 : x63_9 = true
                  · subst c15
                    have H1 : (some true) = some r := by rw [if_pos rfl] at H; exact H
                    clear H
                    have H := H1
                    clear H1
                    obtain rfl := Option.some.inj H
                    go_wp2
                    go_ret
                    exact ⟨by first | rfl | (simp [errW_none, errW_some] <;> rfl) | (simp [*, errW_none, errW_some] <;> rfl), by repeat (first | (with_reducible first | exact HB.out | apply below_alloc | apply pw_below_drewN | apply below_drew1) | exact HB.out)⟩
                  · replace c15 := Bool.eq_false_iff.mpr c15
                    subst c15
                    have H1 : (if 0 ≤ x7_2 then (if x7_2 < (l0.length : Int) then ((utf_Put.f kj9 ([] : List Int) (rd l0 x7_2)).bind fun t220 => (if (rd l0 x7_2) ≥ 65536 then (if (wrap64 ((t220.length : Int) + 1)) = 0 then (none) else (if 0 ≤ (Int.tmod (Int.tmod a1 4) (wrap64 ((t220.length : Int) + 1))) then (if (Int.tmod (Int.tmod a1 4) (wrap64 ((t220.length : Int) + 1))) ≤ (t220.length : Int) then ((utf_Valid.f kj9 (t220.take ((Int.tmod (Int.tmod a1 4) (wrap64 ((t220.length : Int) + 1))) : Int).toNat)).bind fun bt228 => (if (t220.length : Int) = 4 then (if (bt228.2 != ((Int.tmod a1 4) == 0)) = true then (some false) else (if x6_2.length + t220.length < 140737488355328 then (abridgerlaw1_UtfBack.l0 kj9 l0 a1 (x6_2 ++ t220) (wrap64 (x7_2 + 1))) else (none))) else (some false))) else (none)) else (none))) else (if (rd l0 x7_2) ≥ 2048 then (if (wrap64 ((t220.length : Int) + 1)) = 0 then (none) else (if 0 ≤ (Int.tmod (Int.tmod a1 3) (wrap64 ((t220.length : Int) + 1))) then (if (Int.tmod (Int.tmod a1 3) (wrap64 ((t220.length : Int) + 1))) ≤ (t220.length : Int) then ((utf_Valid.f kj9 (t220.take ((Int.tmod (Int.tmod a1 3) (wrap64 ((t220.length : Int) + 1))) : Int).toNat)).bind fun bt238 => (if (t220.length : Int) = 3 then (if (bt238.2 != ((Int.tmod a1 3) == 0)) = true then (some false) else (if x6_2.length + t220.length < 140737488355328 then (abridgerlaw1_UtfBack.l0 kj9 l0 a1 (x6_2 ++ t220) (wrap64 (x7_2 + 1))) else (none))) else (some false))) else (none)) else (none))) else (if (rd l0 x7_2) ≥ 128 then (if (wrap64 ((t220.length : Int) + 1)) = 0 then (none) else (if 0 ≤ (Int.tmod (Int.tmod a1 2) (wrap64 ((t220.length : Int) + 1))) then (if (Int.tmod (Int.tmod a1 2) (wrap64 ((t220.length : Int) + 1))) ≤ (t220.length : Int) then ((utf_Valid.f kj9 (t220.take ((Int.tmod (Int.tmod a1 2) (wrap64 ((t220.length : Int) + 1))) : Int).toNat)).bind fun bt248 => (if (t220.length : Int) = 2 then (if (bt248.2 != ((Int.tmod a1 2) == 0)) = true then (some false) else (if x6_2.length + t220.length < 140737488355328 then (abridgerlaw1_UtfBack.l0 kj9 l0 a1 (x6_2 ++ t220) (wrap64 (x7_2 + 1))) else (none))) else (some false))) else (none)) else (none))) else (if (wrap64 ((t220.length : Int) + 1)) = 0 then (none) else (if 0 ≤ (t220.length : Int) then ((utf_Valid.f kj9 (t220.take 0)).bind fun bt257 => (if (t220.length : Int) = 1 then (if bt257.2 = true then (if x6_2.length + t220.length < 140737488355328 then (abridgerlaw1_UtfBack.l0 kj9 l0 a1 (x6_2 ++ t220) (wrap64 (x7_2 + 1))) else (none)) else (some false)) else (some false))) else (none))))))) else (none)) else (none)) = some r := by rw [if_neg (show ¬ (false = true) by decide)] at H; exact H
                    clear H
                    have H := H1
                    clear H1
                    by_cases c16 : 0 ≤ x7_2
                    · rw [if_pos c16] at H
                      have c16b0 : decide (0 ≤ x7_2) = true := decide_eq_true c16
                      clear c16
                      by_cases c17 : x7_2 < (l0.length : Int)
                      · rw [if_pos c17] at H
                        have c17b0 : decide (x7_2 < (l0.length : Int)) = true := decide_eq_true c17
                        clear c17
                        replace H := Option.bind_eq_some_iff.mp H
                        obtain ⟨t220, A180, H⟩ := H
                        replace H : (if (rd l0 x7_2) ≥ 65536 then (if (wrap64 ((t220.length : Int) + 1)) = 0 then (none) else (if 0 ≤ (Int.tmod (Int.tmod a1 4) (wrap64 ((t220.length : Int) + 1))) then (if (Int.tmod (Int.tmod a1 4) (wrap64 ((t220.length : Int) + 1))) ≤ (t220.length : Int) then ((utf_Valid.f kj9 (t220.take ((Int.tmod (Int.tmod a1 4) (wrap64 ((t220.length : Int) + 1))) : Int).toNat)).bind fun bt228 => (if (t220.length : Int) = 4 then (if (bt228.2 != ((Int.tmod a1 4) == 0)) = true then (some false) else (if x6_2.length + t220.length < 140737488355328 then (abridgerlaw1_UtfBack.l0 kj9 l0 a1 (x6_2 ++ t220) (wrap64 (x7_2 + 1))) else (none))) else (some false))) else (none)) else (none))) else (if (rd l0 x7_2) ≥ 2048 then (if (wrap64 ((t220.length : Int) + 1)) = 0 then (none) else (if 0 ≤ (Int.tmod (Int.tmod a1 3) (wrap64 ((t220.length : Int) + 1))) then (if (Int.tmod (Int.tmod a1 3) (wrap64 ((t220.length : Int) + 1))) ≤ (t220.length : Int) then ((utf_Valid.f kj9 (t220.take ((Int.tmod (Int.tmod a1 3) (wrap64 ((t220.length : Int) + 1))) : Int).toNat)).bind fun bt238 => (if (t220.length : Int) = 3 then (if (bt238.2 != ((Int.tmod a1 3) == 0)) = true then (some false) else (if x6_2.length + t220.length < 140737488355328 then (abridgerlaw1_UtfBack.l0 kj9 l0 a1 (x6_2 ++ t220) (wrap64 (x7_2 + 1))) else (none))) else (some false))) else (none)) else (none))) else (if (rd l0 x7_2) ≥ 128 then (if (wrap64 ((t220.length : Int) + 1)) = 0 then (none) else (if 0 ≤ (Int.tmod (Int.tmod a1 2) (wrap64 ((t220.length : Int) + 1))) then (if (Int.tmod (Int.tmod a1 2) (wrap64 ((t220.length : Int) + 1))) ≤ (t220.length : Int) then ((utf_Valid.f kj9 (t220.take ((Int.tmod (Int.tmod a1 2) (wrap64 ((t220.length : Int) + 1))) : Int).toNat)).bind fun bt248 => (if (t220.length : Int) = 2 then (if (bt248.2 != ((Int.tmod a1 2) == 0)) = true then (some false) else (if x6_2.length + t220.length < 140737488355328 then (abridgerlaw1_UtfBack.l0 kj9 l0 a1 (x6_2 ++ t220) (wrap64 (x7_2 + 1))) else (none))) else (some false))) else (none)) else (none))) else (if (wrap64 ((t220.length : Int) + 1)) = 0 then (none) else (if 0 ≤ (t220.length : Int) then ((utf_Valid.f kj9 (t220.take 0)).bind fun bt257 => (if (t220.length : Int) = 1 then (if bt257.2 = true then (if x6_2.length + t220.length < 140737488355328 then (abridgerlaw1_UtfBack.l0 kj9 l0 a1 (x6_2 ++ t220) (wrap64 (x7_2 + 1))) else (none)) else (some false)) else (some false))) else (none)))))) = some r := H
                        have A18 := Aside0.mk A180
                        clear A180
                        by_cases c19 : (rd l0 x7_2) ≥ 65536
                        · rw [if_pos c19] at H
                          have c19b0 : decide (65536 ≤ (rd l0 x7_2)) = true := decide_eq_true c19
                          clear c19
                          by_cases c20 : (wrap64 ((t220.length : Int) + 1)) = 0
                          · rw [if_pos c20] at H
                            exact absurd H (by simp)
                          · rw [if_neg c20] at H
                            have c20b0 : ((wrap64 ((t220.length : Int) + 1)) == 0) = false := beq_eq_false_iff_ne.mpr c20
                            have c20b1 : ((wrap64 ((t220.length : Int) + 1)) != 0) = true := bne_iff_ne.mpr c20
                            obtain ⟨ji21, hji21⟩ : ∃ j_ : Int, (Int.tmod (Int.tmod a1 4) (wrap64 ((t220.length : Int) + 1))) = j_ := ⟨_, rfl⟩
                            replace H : (if 0 ≤ (ji21) then (if (ji21) ≤ (t220.length : Int) then ((utf_Valid.f kj9 (t220.take ((ji21) : Int).toNat)).bind fun bt228 => (if (t220.length : Int) = 4 then (if (bt228.2 != ((Int.tmod a1 4) == 0)) = true then (some false) else (if x6_2.length + t220.length < 140737488355328 then (abridgerlaw1_UtfBack.l0 kj9 l0 a1 (x6_2 ++ t220) (wrap64 (x7_2 + 1))) else (none))) else (some false))) else (none)) else (none)) = some r := by first | (rw [hji21] at H; exact H) | (simp only [hji21] at H ⊢; exact H)
                            (try rw [hji21] at A18)
                            by_cases c22 : 0 ≤ (ji21)
                            · rw [if_pos c22] at H
                              have c22b0 := eq_true c22
                              have c22b1 : decide (0 ≤ (ji21)) = true := decide_eq_true c22
                              clear c22
                              by_cases c23 : (ji21) ≤ (t220.length : Int)
                              · rw [if_pos c23] at H
                                have c23b0 := eq_true c23
                                have c23b1 : decide ((ji21) ≤ (t220.length : Int)) = true := decide_eq_true c23
                                clear c23
                                obtain ⟨y224, hy224⟩ : ∃ y_ : List Int, y_ = (t220.take ((ji21) : Int).toNat) := ⟨_, rfl⟩
                                replace H : ((utf_Valid.f kj9 y224).bind fun bt228 => (if (t220.length : Int) = 4 then (if (bt228.2 != ((Int.tmod a1 4) == 0)) = true then (some false) else (if x6_2.length + t220.length < 140737488355328 then (abridgerlaw1_UtfBack.l0 kj9 l0 a1 (x6_2 ++ t220) (wrap64 (x7_2 + 1))) else (none))) else (some false))) = some r := by first | (rw [hy224]; with_reducible exact H) | (have H2_ := (Option.bind_some _ _).symm.trans H; rw [hy224]; with_reducible exact H2_) | (have H2_ := (Option.bind_some _ _).symm.trans H; with_reducible exact H2_) | with_reducible exact H | (rw [hy224]; exact H) | exact H
                                have Ny224 := Aside0.mk hy224
                                clear hy224
                                replace H := Option.bind_eq_some_iff.mp H
                                obtain ⟨⟨t228, t229⟩, A240, H⟩ := H
                                replace H : (if (t220.length : Int) = 4 then (if (t229 != ((Int.tmod a1 4) == 0)) = true then (some false) else (if x6_2.length + t220.length < 140737488355328 then (abridgerlaw1_UtfBack.l0 kj9 l0 a1 (x6_2 ++ t220) (wrap64 (x7_2 + 1))) else (none))) else (some false)) = some r := H
                                have A24 := Aside0.mk A240
                                clear A240
                                by_cases c25 : (t220.length : Int) = 4
                                · rw [if_pos c25] at H
                                  have c25b0 : ((t220.length : Int) == 4) = true := beq_iff_eq.mpr c25
                                  have c25b1 : ((t220.length : Int) != 4) = false := bne_eq_false_iff_eq.mpr c25
                                  clear c25
                                  by_cases c26 : (t229 != ((Int.tmod a1 4) == 0)) = true
                                  · rw [if_pos c26] at H
                                    have c26b0 : (t229 != ((Int.tmod a1 4) == 0)) = true := c26
                                    (try (have c26b1 : decide (t229 = ((Int.tmod a1 4) == 0)) = false := by simpa using c26))
                                    (try (have c26b2 : (t229 == ((Int.tmod a1 4) == 0)) = false := by simpa using c26))
                                    (try (have c26b3 : ¬ (t229 = ((Int.tmod a1 4) == 0)) := by simpa using c26))
                                    clear c26
                                    obtain rfl := Option.some.inj H
                                    have p219 : 0 ≤ (x7_2 : Int) := of_decide_eq_true (by first | (with_reducible assumption) | assumption)
                                    have q219 : x7_2 < (l0.length : Int) := of_decide_eq_true (by first | (with_reducible assumption) | assumption)
                                    obtain ⟨ad219, e219, hx219_0⟩ := Kd.at_int HR0.out x7_2 p219 q219
                                    cases e219
                                    replace hx219_0 := (HB.out.cell (World.block_lt_of_cell? w _ hx219_0)).trans hx219_0
                                    replace p219 := eq_true p219
                                    replace q219 := eq_true q219
                                    go_wp2_with (first | ((with_reducible refine gate_callee (f := 9) rfl ?_); refine goesL_ (some 68) rfl rfl Try.func9 (by kernel_rfl) rfl #[.slice none 0 0, .int .i64 (rd l0 x7_2)] rfl (by (try simp only [List.map_toArray, List.map_cons, List.map_nil]); first | done | rfl | (simp only [List.length_drop, List.length_take]; rfl)) ?_; (refine (utf_Put.calls kj9 _ _ ([] : List Int) (rd l0 x7_2) t220 _ ?side1 ?side2 A18.out).mono ?_); (case side1 => exact Kd.C_nil _ _); (case side2 => exact Nat.le_refl _); rintro e w27 ⟨v221, rfl, ho0, hb⟩; refine ⟨_, rfl, ?_⟩; have n0_ := Aside0.mk (Kd.R_elder' (by (with_reducible repeat (first | apply Kd.R_alloc | apply Kd.R_drewN | apply Kd.R_drew)); exact HO_6.out) (Kd.R_base ho0) hb); have n1_ := Aside0.mk (Kd.R_lower (Kd.R_new' ho0 (Kd.R_lt (by (with_reducible repeat (first | apply Kd.R_alloc | apply Kd.R_drewN | apply Kd.R_drew)); exact HO_6.out))) (below_size (by repeat (first | (with_reducible first | exact HB.out | apply below_alloc | apply pw_below_drewN | apply below_drew1) | exact HB.out)))); have n2_ := Aside0.mk (below_step (by repeat (first | (with_reducible first | exact HB.out | apply below_alloc | apply pw_below_drewN | apply below_drew1) | exact HB.out)) hb); clear HO_6; clear HB; have HO_6 := n0_; have HO222 := n1_; have HB := n2_; clear n0_ n1_ n2_; (try clear hb); (try clear hb2); (try clear hk); (try clear hi); (try clear ho0); have p223 : 0 ≤ (x7_2 : Int) := of_decide_eq_true (by first | (with_reducible assumption) | assumption); have q223 : x7_2 < (l0.length : Int) := of_decide_eq_true (by first | (with_reducible assumption) | assumption); obtain ⟨ad223, e223, hx223_0⟩ := Kd.at_int HR0.out x7_2 p223 q223; obtain rfl : ad219 = ad223 := (by injection e223); replace hx223_0 := (HB.out.cell (World.block_lt_of_cell? w _ hx223_0)).trans hx223_0; replace p223 := eq_true p223; replace q223 := eq_true q223; obtain ⟨Ao28, co28, eo28⟩ := Kd.R_slice HO222.out; subst eo28; have q29 : ((ji21) : Int) ≤ ((t220.length : Int) : Int) := of_decide_eq_true (by first | (with_reducible assumption) | assumption); obtain ⟨i029, hi029, _, hsz29, _⟩ := info_parts info5; have hroom29 : t220.length ≤ co28 := (Kd.R_reads' HO222.out).2.1; have hC29 : Kd.C (Kd.int .u8) _ Ao28 t220.length t220 := (Kd.R_reads' HO222.out).2.2; have hcut29 := cut_to (P := Try.prog) 23 5 .i64 Try.underlying23 hi029 Ao28 t220.length co28 (ji21) (of_decide_eq_true (by first | (with_reducible assumption) | assumption)) q29 hroom29; have hr29 := Kd.C_take (m := ((ji21) : Int).toNat) hC29 (by omega); have hy29 : y224.length = ((ji21) : Int).toNat := (by rw [Ny224.out, List.length_take]; omega); rw [← Ny224.out] at hr29; rw [← hy29] at hcut29; have HR227 := Aside0.mk hr29; have HC227 := Aside0.mk (show y224.length ≤ co28 from by omega); clear hr29 hC29 hroom29 hi029 hsz29; have KY29 := Aside0.mk hy29; clear hy29; have KL29 := Aside0.mk (show ((ji21) : Int).toNat ≤ t220.length from by omega); replace q29 := eq_true q29) | ((with_reducible refine gate_callee (f := 12) rfl ?_); refine goesL_ (some 97) rfl rfl Try.func12 (by kernel_rfl) rfl #[.slice Ao28 y224.length co28] rfl (by (try simp only [List.map_toArray, List.map_cons, List.map_nil]); first | done | rfl | (simp only [List.length_drop, List.length_take]; rfl)) ?_; (with_reducible refine (utf_Valid.calls kj9 _ _ y224 t228 t229 _ ?side1 ?side2 A24.out).mono ?_); (case side1 => repeat (first | exact (by repeat (first | (with_reducible exact HR227.out) | (with_reducible refine Kd.C_alloc ?_ _) | (with_reducible refine Kd.C_drewN ?_ _) | (with_reducible refine Kd.C_drew ?_) | exact HR227.out)) | (with_reducible refine Kd.C_alloc ?_ _) | (with_reducible refine Kd.C_drewN ?_ _) | (with_reducible refine Kd.C_drew ?_))); (case side2 => exact HC227.out); rintro e w' ⟨rfl, ⟨nd, rfl⟩⟩; refine ⟨_, rfl, ?_⟩))
                                    go_ret
                                    exact ⟨by first | rfl | (simp [errW_none, errW_some] <;> rfl) | (simp only [← hji21]; first | rfl | (simp [errW_none, errW_some] <;> rfl)) | (simp [*, errW_none, errW_some] <;> rfl), by repeat (first | (with_reducible first | exact HB.out | apply below_alloc | apply pw_below_drewN | apply below_drew1) | exact HB.out)⟩
                                  · rw [if_neg c26] at H
                                    have c26b0 : (t229 != ((Int.tmod a1 4) == 0)) = false := by simpa using c26
                                    (try (have c26b1 : decide (t229 = ((Int.tmod a1 4) == 0)) = true := by simpa using c26))
                                    (try (have c26b2 : (t229 == ((Int.tmod a1 4) == 0)) = true := by simpa using c26))
                                    clear c26
                                    by_cases c30 : x6_2.length + t220.length < 140737488355328
                                    · rw [if_pos c30] at H
                                      have LMc30 := Aside0.mk c30
                                      clear c30
                                      obtain ⟨y230, hy230⟩ : ∃ y_ : List Int, y_ = (x6_2 ++ t220) := ⟨_, rfl⟩
                                      replace H : (abridgerlaw1_UtfBack.l0 kj9 l0 a1 y230 (wrap64 (x7_2 + 1))) = some r := by first | (rw [hy230]; with_reducible exact H) | (have H2_ := (Option.bind_some _ _).symm.trans H; rw [hy230]; with_reducible exact H2_) | (have H2_ := (Option.bind_some _ _).symm.trans H; with_reducible exact H2_) | with_reducible exact H | (rw [hy230]; exact H) | exact H
                                      have Ny230 := Aside0.mk hy230
                                      clear hy230
                                      have H' := Aside0.mk H
                                      clear H
                                      have p219 : 0 ≤ (x7_2 : Int) := of_decide_eq_true (by first | (with_reducible assumption) | assumption)
                                      have q219 : x7_2 < (l0.length : Int) := of_decide_eq_true (by first | (with_reducible assumption) | assumption)
                                      obtain ⟨ad219, e219, hx219_0⟩ := Kd.at_int HR0.out x7_2 p219 q219
                                      cases e219
                                      replace hx219_0 := (HB.out.cell (World.block_lt_of_cell? w _ hx219_0)).trans hx219_0
                                      replace p219 := eq_true p219
                                      replace q219 := eq_true q219
                                      go_wp2_with (first | ((with_reducible refine gate_callee (f := 9) rfl ?_); refine goesL_ (some 68) rfl rfl Try.func9 (by kernel_rfl) rfl #[.slice none 0 0, .int .i64 (rd l0 x7_2)] rfl (by (try simp only [List.map_toArray, List.map_cons, List.map_nil]); first | done | rfl | (simp only [List.length_drop, List.length_take]; rfl)) ?_; (refine (utf_Put.calls kj9 _ _ ([] : List Int) (rd l0 x7_2) t220 _ ?side1 ?side2 A18.out).mono ?_); (case side1 => exact Kd.C_nil _ _); (case side2 => exact Nat.le_refl _); rintro e w31 ⟨v221, rfl, ho0, hb⟩; refine ⟨_, rfl, ?_⟩; have n0_ := Aside0.mk (Kd.R_elder' (by (with_reducible repeat (first | apply Kd.R_alloc | apply Kd.R_drewN | apply Kd.R_drew)); exact HO_6.out) (Kd.R_base ho0) hb); have n1_ := Aside0.mk (Kd.R_lower (Kd.R_new' ho0 (Kd.R_lt (by (with_reducible repeat (first | apply Kd.R_alloc | apply Kd.R_drewN | apply Kd.R_drew)); exact HO_6.out))) (below_size (by repeat (first | (with_reducible first | exact HB.out | apply below_alloc | apply pw_below_drewN | apply below_drew1) | exact HB.out)))); have n2_ := Aside0.mk (below_step (by repeat (first | (with_reducible first | exact HB.out | apply below_alloc | apply pw_below_drewN | apply below_drew1) | exact HB.out)) hb); clear HO_6; clear HB; have HO_6 := n0_; have HO222 := n1_; have HB := n2_; clear n0_ n1_ n2_; (try clear hb); (try clear hb2); (try clear hk); (try clear hi); (try clear ho0); have p223 : 0 ≤ (x7_2 : Int) := of_decide_eq_true (by first | (with_reducible assumption) | assumption); have q223 : x7_2 < (l0.length : Int) := of_decide_eq_true (by first | (with_reducible assumption) | assumption); obtain ⟨ad223, e223, hx223_0⟩ := Kd.at_int HR0.out x7_2 p223 q223; obtain rfl : ad219 = ad223 := (by injection e223); replace hx223_0 := (HB.out.cell (World.block_lt_of_cell? w _ hx223_0)).trans hx223_0; replace p223 := eq_true p223; replace q223 := eq_true q223; obtain ⟨Ao32, co32, eo32⟩ := Kd.R_slice HO222.out; subst eo32; have q33 : ((ji21) : Int) ≤ ((t220.length : Int) : Int) := of_decide_eq_true (by first | (with_reducible assumption) | assumption); obtain ⟨i033, hi033, _, hsz33, _⟩ := info_parts info5; have hroom33 : t220.length ≤ co32 := (Kd.R_reads' HO222.out).2.1; have hC33 : Kd.C (Kd.int .u8) _ Ao32 t220.length t220 := (Kd.R_reads' HO222.out).2.2; have hcut33 := cut_to (P := Try.prog) 23 5 .i64 Try.underlying23 hi033 Ao32 t220.length co32 (ji21) (of_decide_eq_true (by first | (with_reducible assumption) | assumption)) q33 hroom33; have hr33 := Kd.C_take (m := ((ji21) : Int).toNat) hC33 (by omega); have hy33 : y224.length = ((ji21) : Int).toNat := (by rw [Ny224.out, List.length_take]; omega); rw [← Ny224.out] at hr33; rw [← hy33] at hcut33; have HR227 := Aside0.mk hr33; have HC227 := Aside0.mk (show y224.length ≤ co32 from by omega); clear hr33 hC33 hroom33 hi033 hsz33; have KY33 := Aside0.mk hy33; clear hy33; have KL33 := Aside0.mk (show ((ji21) : Int).toNat ≤ t220.length from by omega); replace q33 := eq_true q33) | ((with_reducible refine gate_callee (f := 12) rfl ?_); refine goesL_ (some 97) rfl rfl Try.func12 (by kernel_rfl) rfl #[.slice Ao32 y224.length co32] rfl (by (try simp only [List.map_toArray, List.map_cons, List.map_nil]); first | done | rfl | (simp only [List.length_drop, List.length_take]; rfl)) ?_; (with_reducible refine (utf_Valid.calls kj9 _ _ y224 t228 t229 _ ?side1 ?side2 A24.out).mono ?_); (case side1 => repeat (first | exact (by repeat (first | (with_reducible exact HR227.out) | (with_reducible refine Kd.C_alloc ?_ _) | (with_reducible refine Kd.C_drewN ?_ _) | (with_reducible refine Kd.C_drew ?_) | exact HR227.out)) | (with_reducible refine Kd.C_alloc ?_ _) | (with_reducible refine Kd.C_drewN ?_ _) | (with_reducible refine Kd.C_drew ?_))); (case side2 => exact HC227.out); rintro e w' ⟨rfl, ⟨nd, rfl⟩⟩; refine ⟨_, rfl, ?_⟩) | ((with_reducible refine gate_builtin (b := .append) (xs := #[(.tmp 112), (.tmp 113)]) rfl ?_); (try (refine gate_guard (by rfl) ?_; dsimp only)); at_builtin; refine Kd.R_append_rows (Kd.int .u8) (w0 := w) w.heap.size rfl (.tmp 112) (.tmp 113) 23 5 (.int .u8 0) 1 rfl Try.underlying23 info5 rfl (by decide) (by omega) u6 x6_2 t220 _ _ _ (fun k_ => some k_ ≠ (.slice Ao32 t220.length co32 : Value).ownBlock) (fun _ => False) rfl rfl ?aO ?aR (fun _ _ h => h) (fun _ h => h.elim) ?aF ?aB ?aS ?aL ?_; (case aR => repeat (first | exact (Kd.R_reads' HO222.out).2.2 | (with_reducible refine Kd.C_alloc ?_ _) | (with_reducible refine Kd.C_drewN ?_ _) | (with_reducible refine Kd.C_drew ?_))); (case aB => exact (by repeat (first | (with_reducible first | exact HB.out | apply below_alloc | apply pw_below_drewN | apply below_drew1) | exact HB.out))); (case aF => exact (fun k_ hk => Kd.fresh' (Kd.R_lt (by (with_reducible repeat (first | apply Kd.R_alloc | apply Kd.R_drewN | apply Kd.R_drew)); exact HO222.out)) k_ hk)); (case aO => exact (by (with_reducible repeat (first | apply Kd.R_alloc | apply Kd.R_drewN | apply Kd.R_drew)); exact Kd.R_mono HO_6.out (fun _ hk => hk.2))); (case aS => exact (below_size (by repeat (first | (with_reducible first | exact HB.out | apply below_alloc | apply pw_below_drewN | apply below_drew1) | exact HB.out)))); (case aL => have := LMc30.out; omega); intro v231 w34 ho hb hg hat; rw [← Ny230.out] at ho; have n0_ := Aside0.mk (Kd.R_after (ok := (fun _ => True)) (by (with_reducible repeat (first | apply Kd.R_alloc | apply Kd.R_drewN | apply Kd.R_drew)); exact HO222.out) hg hat); have n1_ := Aside0.mk (hb); have n2_ := Aside0.mk ((show Kd.C (Kd.int .u8) w34 Ao32 y224.length y224 from by rw [Ny224.out]; exact Kd.C_take (m := ((ji21) : Int).toNat) ((Kd.R_reads' (Kd.R_after (ok := (fun _ => True)) (by (with_reducible repeat (first | apply Kd.R_alloc | apply Kd.R_drewN | apply Kd.R_drew)); exact HO222.out) hg hat)).2.2) KL33.out)); have n3_ := Aside0.mk (ho); clear HO222; clear HB; clear HR227; clear HO_6; have HO222 := n0_; have HB := n1_; have HR227 := n2_; have HO232 := n3_; clear n0_ n1_ n2_ n3_; clear ho hb hg hat))
                                      go_roundg kj9
                                      case measure => have := HJ3.out; have := HK2.out; have := HJ9.out; omega
                                      case rel => exact ⟨(y230), (wrap64 (x7_2 + 1)), (by first | rfl | (simp; done) | (simp [*]; done)), H', ⟨by have := HJ3.out; have := HK2.out; have := HJ9.out; omega⟩, ⟨by (with_reducible repeat (first | apply Kd.R_alloc | apply Kd.R_drewN | apply Kd.R_drew)); exact Kd.R_mono HO232.out (fun _ hk => trivial)⟩, ⟨by repeat (first | (with_reducible first | exact HB.out | apply below_alloc | apply pw_below_drewN | apply below_drew1) | exact HB.out)⟩⟩
                                    · rw [if_neg c30] at H
                                      exact absurd H (by simp)
                                · rw [if_neg c25] at H
                                  have c25b0 : ((t220.length : Int) == 4) = false := beq_eq_false_iff_ne.mpr c25
                                  have c25b1 : ((t220.length : Int) != 4) = true := bne_iff_ne.mpr c25
                                  obtain rfl := Option.some.inj H
                                  have p219 : 0 ≤ (x7_2 : Int) := of_decide_eq_true (by first | (with_reducible assumption) | assumption)
                                  have q219 : x7_2 < (l0.length : Int) := of_decide_eq_true (by first | (with_reducible assumption) | assumption)
                                  obtain ⟨ad219, e219, hx219_0⟩ := Kd.at_int HR0.out x7_2 p219 q219
                                  cases e219
                                  replace hx219_0 := (HB.out.cell (World.block_lt_of_cell? w _ hx219_0)).trans hx219_0
                                  replace p219 := eq_true p219
                                  replace q219 := eq_true q219
                                  go_wp2_with (first | ((with_reducible refine gate_callee (f := 9) rfl ?_); refine goesL_ (some 68) rfl rfl Try.func9 (by kernel_rfl) rfl #[.slice none 0 0, .int .i64 (rd l0 x7_2)] rfl (by (try simp only [List.map_toArray, List.map_cons, List.map_nil]); first | done | rfl | (simp only [List.length_drop, List.length_take]; rfl)) ?_; (refine (utf_Put.calls kj9 _ _ ([] : List Int) (rd l0 x7_2) t220 _ ?side1 ?side2 A18.out).mono ?_); (case side1 => exact Kd.C_nil _ _); (case side2 => exact Nat.le_refl _); rintro e w35 ⟨v221, rfl, ho0, hb⟩; refine ⟨_, rfl, ?_⟩; have n0_ := Aside0.mk (Kd.R_elder' (by (with_reducible repeat (first | apply Kd.R_alloc | apply Kd.R_drewN | apply Kd.R_drew)); exact HO_6.out) (Kd.R_base ho0) hb); have n1_ := Aside0.mk (Kd.R_lower (Kd.R_new' ho0 (Kd.R_lt (by (with_reducible repeat (first | apply Kd.R_alloc | apply Kd.R_drewN | apply Kd.R_drew)); exact HO_6.out))) (below_size (by repeat (first | (with_reducible first | exact HB.out | apply below_alloc | apply pw_below_drewN | apply below_drew1) | exact HB.out)))); have n2_ := Aside0.mk (below_step (by repeat (first | (with_reducible first | exact HB.out | apply below_alloc | apply pw_below_drewN | apply below_drew1) | exact HB.out)) hb); clear HO_6; clear HB; have HO_6 := n0_; have HO222 := n1_; have HB := n2_; clear n0_ n1_ n2_; (try clear hb); (try clear hb2); (try clear hk); (try clear hi); (try clear ho0); have p223 : 0 ≤ (x7_2 : Int) := of_decide_eq_true (by first | (with_reducible assumption) | assumption); have q223 : x7_2 < (l0.length : Int) := of_decide_eq_true (by first | (with_reducible assumption) | assumption); obtain ⟨ad223, e223, hx223_0⟩ := Kd.at_int HR0.out x7_2 p223 q223; obtain rfl : ad219 = ad223 := (by injection e223); replace hx223_0 := (HB.out.cell (World.block_lt_of_cell? w _ hx223_0)).trans hx223_0; replace p223 := eq_true p223; replace q223 := eq_true q223; obtain ⟨Ao36, co36, eo36⟩ := Kd.R_slice HO222.out; subst eo36; have q37 : ((ji21) : Int) ≤ ((t220.length : Int) : Int) := of_decide_eq_true (by first | (with_reducible assumption) | assumption); obtain ⟨i037, hi037, _, hsz37, _⟩ := info_parts info5; have hroom37 : t220.length ≤ co36 := (Kd.R_reads' HO222.out).2.1; have hC37 : Kd.C (Kd.int .u8) _ Ao36 t220.length t220 := (Kd.R_reads' HO222.out).2.2; have hcut37 := cut_to (P := Try.prog) 23 5 .i64 Try.underlying23 hi037 Ao36 t220.length co36 (ji21) (of_decide_eq_true (by first | (with_reducible assumption) | assumption)) q37 hroom37; have hr37 := Kd.C_take (m := ((ji21) : Int).toNat) hC37 (by omega); have hy37 : y224.length = ((ji21) : Int).toNat := (by rw [Ny224.out, List.length_take]; omega); rw [← Ny224.out] at hr37; rw [← hy37] at hcut37; have HR227 := Aside0.mk hr37; have HC227 := Aside0.mk (show y224.length ≤ co36 from by omega); clear hr37 hC37 hroom37 hi037 hsz37; have KY37 := Aside0.mk hy37; clear hy37; have KL37 := Aside0.mk (show ((ji21) : Int).toNat ≤ t220.length from by omega); replace q37 := eq_true q37) | ((with_reducible refine gate_callee (f := 12) rfl ?_); refine goesL_ (some 97) rfl rfl Try.func12 (by kernel_rfl) rfl #[.slice Ao36 y224.length co36] rfl (by (try simp only [List.map_toArray, List.map_cons, List.map_nil]); first | done | rfl | (simp only [List.length_drop, List.length_take]; rfl)) ?_; (with_reducible refine (utf_Valid.calls kj9 _ _ y224 t228 t229 _ ?side1 ?side2 A24.out).mono ?_); (case side1 => repeat (first | exact (by repeat (first | (with_reducible exact HR227.out) | (with_reducible refine Kd.C_alloc ?_ _) | (with_reducible refine Kd.C_drewN ?_ _) | (with_reducible refine Kd.C_drew ?_) | exact HR227.out)) | (with_reducible refine Kd.C_alloc ?_ _) | (with_reducible refine Kd.C_drewN ?_ _) | (with_reducible refine Kd.C_drew ?_))); (case side2 => exact HC227.out); rintro e w' ⟨rfl, ⟨nd, rfl⟩⟩; refine ⟨_, rfl, ?_⟩))
                                  go_ret
                                  exact ⟨by first | rfl | (simp [errW_none, errW_some] <;> rfl) | (simp only [← hji21]; first | rfl | (simp [errW_none, errW_some] <;> rfl)) | (simp [*, errW_none, errW_some] <;> rfl), by repeat (first | (with_reducible first | exact HB.out | apply below_alloc | apply pw_below_drewN | apply below_drew1) | exact HB.out)⟩
                              · rw [if_neg c23] at H
                                exact absurd H (by simp)
                            · rw [if_neg c22] at H
                              exact absurd H (by simp)
                        · rw [if_neg c19] at H
                          have c19b0 : decide (65536 ≤ (rd l0 x7_2)) = false := decide_eq_false c19
                          clear c19
                          by_cases c38 : (rd l0 x7_2) ≥ 2048
                          · rw [if_pos c38] at H
                            have c38b0 : decide (2048 ≤ (rd l0 x7_2)) = true := decide_eq_true c38
                            clear c38
                            by_cases c39 : (wrap64 ((t220.length : Int) + 1)) = 0
                            · rw [if_pos c39] at H
                              exact absurd H (by simp)
                            · rw [if_neg c39] at H
                              have c39b0 : ((wrap64 ((t220.length : Int) + 1)) == 0) = false := beq_eq_false_iff_ne.mpr c39
                              have c39b1 : ((wrap64 ((t220.length : Int) + 1)) != 0) = true := bne_iff_ne.mpr c39
                              obtain ⟨ji40, hji40⟩ : ∃ j_ : Int, (Int.tmod (Int.tmod a1 3) (wrap64 ((t220.length : Int) + 1))) = j_ := ⟨_, rfl⟩
                              replace H : (if 0 ≤ (ji40) then (if (ji40) ≤ (t220.length : Int) then ((utf_Valid.f kj9 (t220.take ((ji40) : Int).toNat)).bind fun bt238 => (if (t220.length : Int) = 3 then (if (bt238.2 != ((Int.tmod a1 3) == 0)) = true then (some false) else (if x6_2.length + t220.length < 140737488355328 then (abridgerlaw1_UtfBack.l0 kj9 l0 a1 (x6_2 ++ t220) (wrap64 (x7_2 + 1))) else (none))) else (some false))) else (none)) else (none)) = some r := by first | (rw [hji40] at H; exact H) | (simp only [hji40] at H ⊢; exact H)
                              (try rw [hji40] at A18)
                              by_cases c41 : 0 ≤ (ji40)
                              · rw [if_pos c41] at H
                                have c41b0 := eq_true c41
                                have c41b1 : decide (0 ≤ (ji40)) = true := decide_eq_true c41
                                clear c41
                                by_cases c42 : (ji40) ≤ (t220.length : Int)
                                · rw [if_pos c42] at H
                                  have c42b0 := eq_true c42
                                  have c42b1 : decide ((ji40) ≤ (t220.length : Int)) = true := decide_eq_true c42
                                  clear c42
                                  obtain ⟨y234, hy234⟩ : ∃ y_ : List Int, y_ = (t220.take ((ji40) : Int).toNat) := ⟨_, rfl⟩
                                  replace H : ((utf_Valid.f kj9 y234).bind fun bt238 => (if (t220.length : Int) = 3 then (if (bt238.2 != ((Int.tmod a1 3) == 0)) = true then (some false) else (if x6_2.length + t220.length < 140737488355328 then (abridgerlaw1_UtfBack.l0 kj9 l0 a1 (x6_2 ++ t220) (wrap64 (x7_2 + 1))) else (none))) else (some false))) = some r := by first | (rw [hy234]; with_reducible exact H) | (have H2_ := (Option.bind_some _ _).symm.trans H; rw [hy234]; with_reducible exact H2_) | (have H2_ := (Option.bind_some _ _).symm.trans H; with_reducible exact H2_) | with_reducible exact H | (rw [hy234]; exact H) | exact H
                                  have Ny234 := Aside0.mk hy234
                                  clear hy234
                                  replace H := Option.bind_eq_some_iff.mp H
                                  obtain ⟨⟨t238, t239⟩, A430, H⟩ := H
                                  replace H : (if (t220.length : Int) = 3 then (if (t239 != ((Int.tmod a1 3) == 0)) = true then (some false) else (if x6_2.length + t220.length < 140737488355328 then (abridgerlaw1_UtfBack.l0 kj9 l0 a1 (x6_2 ++ t220) (wrap64 (x7_2 + 1))) else (none))) else (some false)) = some r := H
                                  have A43 := Aside0.mk A430
                                  clear A430
                                  by_cases c44 : (t220.length : Int) = 3
                                  · rw [if_pos c44] at H
                                    have c44b0 : ((t220.length : Int) == 3) = true := beq_iff_eq.mpr c44
                                    have c44b1 : ((t220.length : Int) != 3) = false := bne_eq_false_iff_eq.mpr c44
                                    clear c44
                                    by_cases c45 : (t239 != ((Int.tmod a1 3) == 0)) = true
                                    · rw [if_pos c45] at H
                                      have c45b0 : (t239 != ((Int.tmod a1 3) == 0)) = true := c45
                                      (try (have c45b1 : decide (t239 = ((Int.tmod a1 3) == 0)) = false := by simpa using c45))
                                      (try (have c45b2 : (t239 == ((Int.tmod a1 3) == 0)) = false := by simpa using c45))
                                      (try (have c45b3 : ¬ (t239 = ((Int.tmod a1 3) == 0)) := by simpa using c45))
                                      clear c45
                                      obtain rfl := Option.some.inj H
                                      have p219 : 0 ≤ (x7_2 : Int) := of_decide_eq_true (by first | (with_reducible assumption) | assumption)
                                      have q219 : x7_2 < (l0.length : Int) := of_decide_eq_true (by first | (with_reducible assumption) | assumption)
                                      obtain ⟨ad219, e219, hx219_0⟩ := Kd.at_int HR0.out x7_2 p219 q219
                                      cases e219
                                      replace hx219_0 := (HB.out.cell (World.block_lt_of_cell? w _ hx219_0)).trans hx219_0
                                      replace p219 := eq_true p219
                                      replace q219 := eq_true q219
                                      go_wp2_with (first | ((with_reducible refine gate_callee (f := 9) rfl ?_); refine goesL_ (some 68) rfl rfl Try.func9 (by kernel_rfl) rfl #[.slice none 0 0, .int .i64 (rd l0 x7_2)] rfl (by (try simp only [List.map_toArray, List.map_cons, List.map_nil]); first | done | rfl | (simp only [List.length_drop, List.length_take]; rfl)) ?_; (refine (utf_Put.calls kj9 _ _ ([] : List Int) (rd l0 x7_2) t220 _ ?side1 ?side2 A18.out).mono ?_); (case side1 => exact Kd.C_nil _ _); (case side2 => exact Nat.le_refl _); rintro e w46 ⟨v221, rfl, ho0, hb⟩; refine ⟨_, rfl, ?_⟩; have n0_ := Aside0.mk (Kd.R_elder' (by (with_reducible repeat (first | apply Kd.R_alloc | apply Kd.R_drewN | apply Kd.R_drew)); exact HO_6.out) (Kd.R_base ho0) hb); have n1_ := Aside0.mk (Kd.R_lower (Kd.R_new' ho0 (Kd.R_lt (by (with_reducible repeat (first | apply Kd.R_alloc | apply Kd.R_drewN | apply Kd.R_drew)); exact HO_6.out))) (below_size (by repeat (first | (with_reducible first | exact HB.out | apply below_alloc | apply pw_below_drewN | apply below_drew1) | exact HB.out)))); have n2_ := Aside0.mk (below_step (by repeat (first | (with_reducible first | exact HB.out | apply below_alloc | apply pw_below_drewN | apply below_drew1) | exact HB.out)) hb); clear HO_6; clear HB; have HO_6 := n0_; have HO222 := n1_; have HB := n2_; clear n0_ n1_ n2_; (try clear hb); (try clear hb2); (try clear hk); (try clear hi); (try clear ho0); have p223 : 0 ≤ (x7_2 : Int) := of_decide_eq_true (by first | (with_reducible assumption) | assumption); have q223 : x7_2 < (l0.length : Int) := of_decide_eq_true (by first | (with_reducible assumption) | assumption); obtain ⟨ad223, e223, hx223_0⟩ := Kd.at_int HR0.out x7_2 p223 q223; obtain rfl : ad219 = ad223 := (by injection e223); replace hx223_0 := (HB.out.cell (World.block_lt_of_cell? w _ hx223_0)).trans hx223_0; replace p223 := eq_true p223; replace q223 := eq_true q223; have p233 : 0 ≤ (x7_2 : Int) := of_decide_eq_true (by first | (with_reducible assumption) | assumption); have q233 : x7_2 < (l0.length : Int) := of_decide_eq_true (by first | (with_reducible assumption) | assumption); obtain ⟨ad233, e233, hx233_0⟩ := Kd.at_int HR0.out x7_2 p233 q233; obtain rfl : ad219 = ad233 := (by injection e233); replace hx233_0 := (HB.out.cell (World.block_lt_of_cell? w _ hx233_0)).trans hx233_0; replace p233 := eq_true p233; replace q233 := eq_true q233; obtain ⟨Ao47, co47, eo47⟩ := Kd.R_slice HO222.out; subst eo47; have q48 : ((ji40) : Int) ≤ ((t220.length : Int) : Int) := of_decide_eq_true (by first | (with_reducible assumption) | assumption); obtain ⟨i048, hi048, _, hsz48, _⟩ := info_parts info5; have hroom48 : t220.length ≤ co47 := (Kd.R_reads' HO222.out).2.1; have hC48 : Kd.C (Kd.int .u8) _ Ao47 t220.length t220 := (Kd.R_reads' HO222.out).2.2; have hcut48 := cut_to (P := Try.prog) 23 5 .i64 Try.underlying23 hi048 Ao47 t220.length co47 (ji40) (of_decide_eq_true (by first | (with_reducible assumption) | assumption)) q48 hroom48; have hr48 := Kd.C_take (m := ((ji40) : Int).toNat) hC48 (by omega); have hy48 : y234.length = ((ji40) : Int).toNat := (by rw [Ny234.out, List.length_take]; omega); rw [← Ny234.out] at hr48; rw [← hy48] at hcut48; have HR237 := Aside0.mk hr48; have HC237 := Aside0.mk (show y234.length ≤ co47 from by omega); clear hr48 hC48 hroom48 hi048 hsz48; have KY48 := Aside0.mk hy48; clear hy48; have KL48 := Aside0.mk (show ((ji40) : Int).toNat ≤ t220.length from by omega); replace q48 := eq_true q48) | ((with_reducible refine gate_callee (f := 12) rfl ?_); refine goesL_ (some 97) rfl rfl Try.func12 (by kernel_rfl) rfl #[.slice Ao47 y234.length co47] rfl (by (try simp only [List.map_toArray, List.map_cons, List.map_nil]); first | done | rfl | (simp only [List.length_drop, List.length_take]; rfl)) ?_; (with_reducible refine (utf_Valid.calls kj9 _ _ y234 t238 t239 _ ?side1 ?side2 A43.out).mono ?_); (case side1 => repeat (first | exact (by repeat (first | (with_reducible exact HR237.out) | (with_reducible refine Kd.C_alloc ?_ _) | (with_reducible refine Kd.C_drewN ?_ _) | (with_reducible refine Kd.C_drew ?_) | exact HR237.out)) | (with_reducible refine Kd.C_alloc ?_ _) | (with_reducible refine Kd.C_drewN ?_ _) | (with_reducible refine Kd.C_drew ?_))); (case side2 => exact HC237.out); rintro e w' ⟨rfl, ⟨nd, rfl⟩⟩; refine ⟨_, rfl, ?_⟩))
                                      go_ret
                                      exact ⟨by first | rfl | (simp [errW_none, errW_some] <;> rfl) | (simp only [← hji40]; first | rfl | (simp [errW_none, errW_some] <;> rfl)) | (simp [*, errW_none, errW_some] <;> rfl), by repeat (first | (with_reducible first | exact HB.out | apply below_alloc | apply pw_below_drewN | apply below_drew1) | exact HB.out)⟩
                                    · rw [if_neg c45] at H
                                      have c45b0 : (t239 != ((Int.tmod a1 3) == 0)) = false := by simpa using c45
                                      (try (have c45b1 : decide (t239 = ((Int.tmod a1 3) == 0)) = true := by simpa using c45))
                                      (try (have c45b2 : (t239 == ((Int.tmod a1 3) == 0)) = true := by simpa using c45))
                                      clear c45
                                      by_cases c49 : x6_2.length + t220.length < 140737488355328
                                      · rw [if_pos c49] at H
                                        have LMc49 := Aside0.mk c49
                                        clear c49
                                        obtain ⟨y240, hy240⟩ : ∃ y_ : List Int, y_ = (x6_2 ++ t220) := ⟨_, rfl⟩
                                        replace H : (abridgerlaw1_UtfBack.l0 kj9 l0 a1 y240 (wrap64 (x7_2 + 1))) = some r := by first | (rw [hy240]; with_reducible exact H) | (have H2_ := (Option.bind_some _ _).symm.trans H; rw [hy240]; with_reducible exact H2_) | (have H2_ := (Option.bind_some _ _).symm.trans H; with_reducible exact H2_) | with_reducible exact H | (rw [hy240]; exact H) | exact H
                                        have Ny240 := Aside0.mk hy240
                                        clear hy240
                                        have H' := Aside0.mk H
                                        clear H
                                        have p219 : 0 ≤ (x7_2 : Int) := of_decide_eq_true (by first | (with_reducible assumption) | assumption)
                                        have q219 : x7_2 < (l0.length : Int) := of_decide_eq_true (by first | (with_reducible assumption) | assumption)
                                        obtain ⟨ad219, e219, hx219_0⟩ := Kd.at_int HR0.out x7_2 p219 q219
                                        cases e219
                                        replace hx219_0 := (HB.out.cell (World.block_lt_of_cell? w _ hx219_0)).trans hx219_0
                                        replace p219 := eq_true p219
                                        replace q219 := eq_true q219
                                        go_wp2_with (first | ((with_reducible refine gate_callee (f := 9) rfl ?_); refine goesL_ (some 68) rfl rfl Try.func9 (by kernel_rfl) rfl #[.slice none 0 0, .int .i64 (rd l0 x7_2)] rfl (by (try simp only [List.map_toArray, List.map_cons, List.map_nil]); first | done | rfl | (simp only [List.length_drop, List.length_take]; rfl)) ?_; (refine (utf_Put.calls kj9 _ _ ([] : List Int) (rd l0 x7_2) t220 _ ?side1 ?side2 A18.out).mono ?_); (case side1 => exact Kd.C_nil _ _); (case side2 => exact Nat.le_refl _); rintro e w50 ⟨v221, rfl, ho0, hb⟩; refine ⟨_, rfl, ?_⟩; have n0_ := Aside0.mk (Kd.R_elder' (by (with_reducible repeat (first | apply Kd.R_alloc | apply Kd.R_drewN | apply Kd.R_drew)); exact HO_6.out) (Kd.R_base ho0) hb); have n1_ := Aside0.mk (Kd.R_lower (Kd.R_new' ho0 (Kd.R_lt (by (with_reducible repeat (first | apply Kd.R_alloc | apply Kd.R_drewN | apply Kd.R_drew)); exact HO_6.out))) (below_size (by repeat (first | (with_reducible first | exact HB.out | apply below_alloc | apply pw_below_drewN | apply below_drew1) | exact HB.out)))); have n2_ := Aside0.mk (below_step (by repeat (first | (with_reducible first | exact HB.out | apply below_alloc | apply pw_below_drewN | apply below_drew1) | exact HB.out)) hb); clear HO_6; clear HB; have HO_6 := n0_; have HO222 := n1_; have HB := n2_; clear n0_ n1_ n2_; (try clear hb); (try clear hb2); (try clear hk); (try clear hi); (try clear ho0); have p223 : 0 ≤ (x7_2 : Int) := of_decide_eq_true (by first | (with_reducible assumption) | assumption); have q223 : x7_2 < (l0.length : Int) := of_decide_eq_true (by first | (with_reducible assumption) | assumption); obtain ⟨ad223, e223, hx223_0⟩ := Kd.at_int HR0.out x7_2 p223 q223; obtain rfl : ad219 = ad223 := (by injection e223); replace hx223_0 := (HB.out.cell (World.block_lt_of_cell? w _ hx223_0)).trans hx223_0; replace p223 := eq_true p223; replace q223 := eq_true q223; have p233 : 0 ≤ (x7_2 : Int) := of_decide_eq_true (by first | (with_reducible assumption) | assumption); have q233 : x7_2 < (l0.length : Int) := of_decide_eq_true (by first | (with_reducible assumption) | assumption); obtain ⟨ad233, e233, hx233_0⟩ := Kd.at_int HR0.out x7_2 p233 q233; obtain rfl : ad219 = ad233 := (by injection e233); replace hx233_0 := (HB.out.cell (World.block_lt_of_cell? w _ hx233_0)).trans hx233_0; replace p233 := eq_true p233; replace q233 := eq_true q233; obtain ⟨Ao51, co51, eo51⟩ := Kd.R_slice HO222.out; subst eo51; have q52 : ((ji40) : Int) ≤ ((t220.length : Int) : Int) := of_decide_eq_true (by first | (with_reducible assumption) | assumption); obtain ⟨i052, hi052, _, hsz52, _⟩ := info_parts info5; have hroom52 : t220.length ≤ co51 := (Kd.R_reads' HO222.out).2.1; have hC52 : Kd.C (Kd.int .u8) _ Ao51 t220.length t220 := (Kd.R_reads' HO222.out).2.2; have hcut52 := cut_to (P := Try.prog) 23 5 .i64 Try.underlying23 hi052 Ao51 t220.length co51 (ji40) (of_decide_eq_true (by first | (with_reducible assumption) | assumption)) q52 hroom52; have hr52 := Kd.C_take (m := ((ji40) : Int).toNat) hC52 (by omega); have hy52 : y234.length = ((ji40) : Int).toNat := (by rw [Ny234.out, List.length_take]; omega); rw [← Ny234.out] at hr52; rw [← hy52] at hcut52; have HR237 := Aside0.mk hr52; have HC237 := Aside0.mk (show y234.length ≤ co51 from by omega); clear hr52 hC52 hroom52 hi052 hsz52; have KY52 := Aside0.mk hy52; clear hy52; have KL52 := Aside0.mk (show ((ji40) : Int).toNat ≤ t220.length from by omega); replace q52 := eq_true q52) | ((with_reducible refine gate_callee (f := 12) rfl ?_); refine goesL_ (some 97) rfl rfl Try.func12 (by kernel_rfl) rfl #[.slice Ao51 y234.length co51] rfl (by (try simp only [List.map_toArray, List.map_cons, List.map_nil]); first | done | rfl | (simp only [List.length_drop, List.length_take]; rfl)) ?_; (with_reducible refine (utf_Valid.calls kj9 _ _ y234 t238 t239 _ ?side1 ?side2 A43.out).mono ?_); (case side1 => repeat (first | exact (by repeat (first | (with_reducible exact HR237.out) | (with_reducible refine Kd.C_alloc ?_ _) | (with_reducible refine Kd.C_drewN ?_ _) | (with_reducible refine Kd.C_drew ?_) | exact HR237.out)) | (with_reducible refine Kd.C_alloc ?_ _) | (with_reducible refine Kd.C_drewN ?_ _) | (with_reducible refine Kd.C_drew ?_))); (case side2 => exact HC237.out); rintro e w' ⟨rfl, ⟨nd, rfl⟩⟩; refine ⟨_, rfl, ?_⟩) | ((with_reducible refine gate_builtin (b := .append) (xs := #[(.tmp 112), (.tmp 113)]) rfl ?_); (try (refine gate_guard (by rfl) ?_; dsimp only)); at_builtin; refine Kd.R_append_rows (Kd.int .u8) (w0 := w) w.heap.size rfl (.tmp 112) (.tmp 113) 23 5 (.int .u8 0) 1 rfl Try.underlying23 info5 rfl (by decide) (by omega) u6 x6_2 t220 _ _ _ (fun k_ => some k_ ≠ (.slice Ao51 t220.length co51 : Value).ownBlock) (fun _ => False) rfl rfl ?aO ?aR (fun _ _ h => h) (fun _ h => h.elim) ?aF ?aB ?aS ?aL ?_; (case aR => repeat (first | exact (Kd.R_reads' HO222.out).2.2 | (with_reducible refine Kd.C_alloc ?_ _) | (with_reducible refine Kd.C_drewN ?_ _) | (with_reducible refine Kd.C_drew ?_))); (case aB => exact (by repeat (first | (with_reducible first | exact HB.out | apply below_alloc | apply pw_below_drewN | apply below_drew1) | exact HB.out))); (case aF => exact (fun k_ hk => Kd.fresh' (Kd.R_lt (by (with_reducible repeat (first | apply Kd.R_alloc | apply Kd.R_drewN | apply Kd.R_drew)); exact HO222.out)) k_ hk)); (case aO => exact (by (with_reducible repeat (first | apply Kd.R_alloc | apply Kd.R_drewN | apply Kd.R_drew)); exact Kd.R_mono HO_6.out (fun _ hk => hk.2))); (case aS => exact (below_size (by repeat (first | (with_reducible first | exact HB.out | apply below_alloc | apply pw_below_drewN | apply below_drew1) | exact HB.out)))); (case aL => have := LMc49.out; omega); intro v241 w53 ho hb hg hat; rw [← Ny240.out] at ho; have n0_ := Aside0.mk (Kd.R_after (ok := (fun _ => True)) (by (with_reducible repeat (first | apply Kd.R_alloc | apply Kd.R_drewN | apply Kd.R_drew)); exact HO222.out) hg hat); have n1_ := Aside0.mk (hb); have n2_ := Aside0.mk ((show Kd.C (Kd.int .u8) w53 Ao51 y234.length y234 from by rw [Ny234.out]; exact Kd.C_take (m := ((ji40) : Int).toNat) ((Kd.R_reads' (Kd.R_after (ok := (fun _ => True)) (by (with_reducible repeat (first | apply Kd.R_alloc | apply Kd.R_drewN | apply Kd.R_drew)); exact HO222.out) hg hat)).2.2) KL52.out)); have n3_ := Aside0.mk (ho); clear HO222; clear HB; clear HR237; clear HO_6; have HO222 := n0_; have HB := n1_; have HR237 := n2_; have HO242 := n3_; clear n0_ n1_ n2_ n3_; clear ho hb hg hat))
                                        go_roundg kj9
                                        case measure => have := HJ3.out; have := HK2.out; have := HJ9.out; omega
                                        case rel => exact ⟨(y240), (wrap64 (x7_2 + 1)), (by first | rfl | (simp; done) | (simp [*]; done)), H', ⟨by have := HJ3.out; have := HK2.out; have := HJ9.out; omega⟩, ⟨by (with_reducible repeat (first | apply Kd.R_alloc | apply Kd.R_drewN | apply Kd.R_drew)); exact Kd.R_mono HO242.out (fun _ hk => trivial)⟩, ⟨by repeat (first | (with_reducible first | exact HB.out | apply below_alloc | apply pw_below_drewN | apply below_drew1) | exact HB.out)⟩⟩
                                      · rw [if_neg c49] at H
                                        exact absurd H (by simp)
                                  · rw [if_neg c44] at H
                                    have c44b0 : ((t220.length : Int) == 3) = false := beq_eq_false_iff_ne.mpr c44
                                    have c44b1 : ((t220.length : Int) != 3) = true := bne_iff_ne.mpr c44
                                    obtain rfl := Option.some.inj H
                                    have p219 : 0 ≤ (x7_2 : Int) := of_decide_eq_true (by first | (with_reducible assumption) | assumption)
                                    have q219 : x7_2 < (l0.length : Int) := of_decide_eq_true (by first | (with_reducible assumption) | assumption)
                                    obtain ⟨ad219, e219, hx219_0⟩ := Kd.at_int HR0.out x7_2 p219 q219
                                    cases e219
                                    replace hx219_0 := (HB.out.cell (World.block_lt_of_cell? w _ hx219_0)).trans hx219_0
                                    replace p219 := eq_true p219
                                    replace q219 := eq_true q219
                                    go_wp2_with (first | ((with_reducible refine gate_callee (f := 9) rfl ?_); refine goesL_ (some 68) rfl rfl Try.func9 (by kernel_rfl) rfl #[.slice none 0 0, .int .i64 (rd l0 x7_2)] rfl (by (try simp only [List.map_toArray, List.map_cons, List.map_nil]); first | done | rfl | (simp only [List.length_drop, List.length_take]; rfl)) ?_; (refine (utf_Put.calls kj9 _ _ ([] : List Int) (rd l0 x7_2) t220 _ ?side1 ?side2 A18.out).mono ?_); (case side1 => exact Kd.C_nil _ _); (case side2 => exact Nat.le_refl _); rintro e w54 ⟨v221, rfl, ho0, hb⟩; refine ⟨_, rfl, ?_⟩; have n0_ := Aside0.mk (Kd.R_elder' (by (with_reducible repeat (first | apply Kd.R_alloc | apply Kd.R_drewN | apply Kd.R_drew)); exact HO_6.out) (Kd.R_base ho0) hb); have n1_ := Aside0.mk (Kd.R_lower (Kd.R_new' ho0 (Kd.R_lt (by (with_reducible repeat (first | apply Kd.R_alloc | apply Kd.R_drewN | apply Kd.R_drew)); exact HO_6.out))) (below_size (by repeat (first | (with_reducible first | exact HB.out | apply below_alloc | apply pw_below_drewN | apply below_drew1) | exact HB.out)))); have n2_ := Aside0.mk (below_step (by repeat (first | (with_reducible first | exact HB.out | apply below_alloc | apply pw_below_drewN | apply below_drew1) | exact HB.out)) hb); clear HO_6; clear HB; have HO_6 := n0_; have HO222 := n1_; have HB := n2_; clear n0_ n1_ n2_; (try clear hb); (try clear hb2); (try clear hk); (try clear hi); (try clear ho0); have p223 : 0 ≤ (x7_2 : Int) := of_decide_eq_true (by first | (with_reducible assumption) | assumption); have q223 : x7_2 < (l0.length : Int) := of_decide_eq_true (by first | (with_reducible assumption) | assumption); obtain ⟨ad223, e223, hx223_0⟩ := Kd.at_int HR0.out x7_2 p223 q223; obtain rfl : ad219 = ad223 := (by injection e223); replace hx223_0 := (HB.out.cell (World.block_lt_of_cell? w _ hx223_0)).trans hx223_0; replace p223 := eq_true p223; replace q223 := eq_true q223; have p233 : 0 ≤ (x7_2 : Int) := of_decide_eq_true (by first | (with_reducible assumption) | assumption); have q233 : x7_2 < (l0.length : Int) := of_decide_eq_true (by first | (with_reducible assumption) | assumption); obtain ⟨ad233, e233, hx233_0⟩ := Kd.at_int HR0.out x7_2 p233 q233; obtain rfl : ad219 = ad233 := (by injection e233); replace hx233_0 := (HB.out.cell (World.block_lt_of_cell? w _ hx233_0)).trans hx233_0; replace p233 := eq_true p233; replace q233 := eq_true q233; obtain ⟨Ao55, co55, eo55⟩ := Kd.R_slice HO222.out; subst eo55; have q56 : ((ji40) : Int) ≤ ((t220.length : Int) : Int) := of_decide_eq_true (by first | (with_reducible assumption) | assumption); obtain ⟨i056, hi056, _, hsz56, _⟩ := info_parts info5; have hroom56 : t220.length ≤ co55 := (Kd.R_reads' HO222.out).2.1; have hC56 : Kd.C (Kd.int .u8) _ Ao55 t220.length t220 := (Kd.R_reads' HO222.out).2.2; have hcut56 := cut_to (P := Try.prog) 23 5 .i64 Try.underlying23 hi056 Ao55 t220.length co55 (ji40) (of_decide_eq_true (by first | (with_reducible assumption) | assumption)) q56 hroom56; have hr56 := Kd.C_take (m := ((ji40) : Int).toNat) hC56 (by omega); have hy56 : y234.length = ((ji40) : Int).toNat := (by rw [Ny234.out, List.length_take]; omega); rw [← Ny234.out] at hr56; rw [← hy56] at hcut56; have HR237 := Aside0.mk hr56; have HC237 := Aside0.mk (show y234.length ≤ co55 from by omega); clear hr56 hC56 hroom56 hi056 hsz56; have KY56 := Aside0.mk hy56; clear hy56; have KL56 := Aside0.mk (show ((ji40) : Int).toNat ≤ t220.length from by omega); replace q56 := eq_true q56) | ((with_reducible refine gate_callee (f := 12) rfl ?_); refine goesL_ (some 97) rfl rfl Try.func12 (by kernel_rfl) rfl #[.slice Ao55 y234.length co55] rfl (by (try simp only [List.map_toArray, List.map_cons, List.map_nil]); first | done | rfl | (simp only [List.length_drop, List.length_take]; rfl)) ?_; (with_reducible refine (utf_Valid.calls kj9 _ _ y234 t238 t239 _ ?side1 ?side2 A43.out).mono ?_); (case side1 => repeat (first | exact (by repeat (first | (with_reducible exact HR237.out) | (with_reducible refine Kd.C_alloc ?_ _) | (with_reducible refine Kd.C_drewN ?_ _) | (with_reducible refine Kd.C_drew ?_) | exact HR237.out)) | (with_reducible refine Kd.C_alloc ?_ _) | (with_reducible refine Kd.C_drewN ?_ _) | (with_reducible refine Kd.C_drew ?_))); (case side2 => exact HC237.out); rintro e w' ⟨rfl, ⟨nd, rfl⟩⟩; refine ⟨_, rfl, ?_⟩))
                                    go_ret
                                    exact ⟨by first | rfl | (simp [errW_none, errW_some] <;> rfl) | (simp only [← hji40]; first | rfl | (simp [errW_none, errW_some] <;> rfl)) | (simp [*, errW_none, errW_some] <;> rfl), by repeat (first | (with_reducible first | exact HB.out | apply below_alloc | apply pw_below_drewN | apply below_drew1) | exact HB.out)⟩
                                · rw [if_neg c42] at H
                                  exact absurd H (by simp)
                              · rw [if_neg c41] at H
                                exact absurd H (by simp)
                          · rw [if_neg c38] at H
                            have c38b0 : decide (2048 ≤ (rd l0 x7_2)) = false := decide_eq_false c38
                            clear c38
                            by_cases c57 : (rd l0 x7_2) ≥ 128
                            · rw [if_pos c57] at H
                              have c57b0 : decide (128 ≤ (rd l0 x7_2)) = true := decide_eq_true c57
                              clear c57
                              by_cases c58 : (wrap64 ((t220.length : Int) + 1)) = 0
                              · rw [if_pos c58] at H
                                exact absurd H (by simp)
                              · rw [if_neg c58] at H
                                have c58b0 : ((wrap64 ((t220.length : Int) + 1)) == 0) = false := beq_eq_false_iff_ne.mpr c58
                                have c58b1 : ((wrap64 ((t220.length : Int) + 1)) != 0) = true := bne_iff_ne.mpr c58
                                obtain ⟨ji59, hji59⟩ : ∃ j_ : Int, (Int.tmod (Int.tmod a1 2) (wrap64 ((t220.length : Int) + 1))) = j_ := ⟨_, rfl⟩
                                replace H : (if 0 ≤ (ji59) then (if (ji59) ≤ (t220.length : Int) then ((utf_Valid.f kj9 (t220.take ((ji59) : Int).toNat)).bind fun bt248 => (if (t220.length : Int) = 2 then (if (bt248.2 != ((Int.tmod a1 2) == 0)) = true then (some false) else (if x6_2.length + t220.length < 140737488355328 then (abridgerlaw1_UtfBack.l0 kj9 l0 a1 (x6_2 ++ t220) (wrap64 (x7_2 + 1))) else (none))) else (some false))) else (none)) else (none)) = some r := by first | (rw [hji59] at H; exact H) | (simp only [hji59] at H ⊢; exact H)
                                (try rw [hji59] at A18)
                                by_cases c60 : 0 ≤ (ji59)
                                · rw [if_pos c60] at H
                                  have c60b0 := eq_true c60
                                  have c60b1 : decide (0 ≤ (ji59)) = true := decide_eq_true c60
                                  clear c60
                                  by_cases c61 : (ji59) ≤ (t220.length : Int)
                                  · rw [if_pos c61] at H
                                    have c61b0 := eq_true c61
                                    have c61b1 : decide ((ji59) ≤ (t220.length : Int)) = true := decide_eq_true c61
                                    clear c61
                                    obtain ⟨y244, hy244⟩ : ∃ y_ : List Int, y_ = (t220.take ((ji59) : Int).toNat) := ⟨_, rfl⟩
                                    replace H : ((utf_Valid.f kj9 y244).bind fun bt248 => (if (t220.length : Int) = 2 then (if (bt248.2 != ((Int.tmod a1 2) == 0)) = true then (some false) else (if x6_2.length + t220.length < 140737488355328 then (abridgerlaw1_UtfBack.l0 kj9 l0 a1 (x6_2 ++ t220) (wrap64 (x7_2 + 1))) else (none))) else (some false))) = some r := by first | (rw [hy244]; with_reducible exact H) | (have H2_ := (Option.bind_some _ _).symm.trans H; rw [hy244]; with_reducible exact H2_) | (have H2_ := (Option.bind_some _ _).symm.trans H; with_reducible exact H2_) | with_reducible exact H | (rw [hy244]; exact H) | exact H
                                    have Ny244 := Aside0.mk hy244
                                    clear hy244
                                    replace H := Option.bind_eq_some_iff.mp H
                                    obtain ⟨⟨t248, t249⟩, A620, H⟩ := H
                                    replace H : (if (t220.length : Int) = 2 then (if (t249 != ((Int.tmod a1 2) == 0)) = true then (some false) else (if x6_2.length + t220.length < 140737488355328 then (abridgerlaw1_UtfBack.l0 kj9 l0 a1 (x6_2 ++ t220) (wrap64 (x7_2 + 1))) else (none))) else (some false)) = some r := H
                                    have A62 := Aside0.mk A620
                                    clear A620
                                    by_cases c63 : (t220.length : Int) = 2
                                    · rw [if_pos c63] at H
                                      have c63b0 : ((t220.length : Int) == 2) = true := beq_iff_eq.mpr c63
                                      have c63b1 : ((t220.length : Int) != 2) = false := bne_eq_false_iff_eq.mpr c63
                                      clear c63
                                      by_cases c64 : (t249 != ((Int.tmod a1 2) == 0)) = true
                                      · rw [if_pos c64] at H
                                        have c64b0 : (t249 != ((Int.tmod a1 2) == 0)) = true := c64
                                        (try (have c64b1 : decide (t249 = ((Int.tmod a1 2) == 0)) = false := by simpa using c64))
                                        (try (have c64b2 : (t249 == ((Int.tmod a1 2) == 0)) = false := by simpa using c64))
                                        (try (have c64b3 : ¬ (t249 = ((Int.tmod a1 2) == 0)) := by simpa using c64))
                                        clear c64
                                        obtain rfl := Option.some.inj H
                                        have p219 : 0 ≤ (x7_2 : Int) := of_decide_eq_true (by first | (with_reducible assumption) | assumption)
                                        have q219 : x7_2 < (l0.length : Int) := of_decide_eq_true (by first | (with_reducible assumption) | assumption)
                                        obtain ⟨ad219, e219, hx219_0⟩ := Kd.at_int HR0.out x7_2 p219 q219
                                        cases e219
                                        replace hx219_0 := (HB.out.cell (World.block_lt_of_cell? w _ hx219_0)).trans hx219_0
                                        replace p219 := eq_true p219
                                        replace q219 := eq_true q219
                                        go_wp2_with (first | ((with_reducible refine gate_callee (f := 9) rfl ?_); refine goesL_ (some 68) rfl rfl Try.func9 (by kernel_rfl) rfl #[.slice none 0 0, .int .i64 (rd l0 x7_2)] rfl (by (try simp only [List.map_toArray, List.map_cons, List.map_nil]); first | done | rfl | (simp only [List.length_drop, List.length_take]; rfl)) ?_; (refine (utf_Put.calls kj9 _ _ ([] : List Int) (rd l0 x7_2) t220 _ ?side1 ?side2 A18.out).mono ?_); (case side1 => exact Kd.C_nil _ _); (case side2 => exact Nat.le_refl _); rintro e w65 ⟨v221, rfl, ho0, hb⟩; refine ⟨_, rfl, ?_⟩; have n0_ := Aside0.mk (Kd.R_elder' (by (with_reducible repeat (first | apply Kd.R_alloc | apply Kd.R_drewN | apply Kd.R_drew)); exact HO_6.out) (Kd.R_base ho0) hb); have n1_ := Aside0.mk (Kd.R_lower (Kd.R_new' ho0 (Kd.R_lt (by (with_reducible repeat (first | apply Kd.R_alloc | apply Kd.R_drewN | apply Kd.R_drew)); exact HO_6.out))) (below_size (by repeat (first | (with_reducible first | exact HB.out | apply below_alloc | apply pw_below_drewN | apply below_drew1) | exact HB.out)))); have n2_ := Aside0.mk (below_step (by repeat (first | (with_reducible first | exact HB.out | apply below_alloc | apply pw_below_drewN | apply below_drew1) | exact HB.out)) hb); clear HO_6; clear HB; have HO_6 := n0_; have HO222 := n1_; have HB := n2_; clear n0_ n1_ n2_; (try clear hb); (try clear hb2); (try clear hk); (try clear hi); (try clear ho0); have p223 : 0 ≤ (x7_2 : Int) := of_decide_eq_true (by first | (with_reducible assumption) | assumption); have q223 : x7_2 < (l0.length : Int) := of_decide_eq_true (by first | (with_reducible assumption) | assumption); obtain ⟨ad223, e223, hx223_0⟩ := Kd.at_int HR0.out x7_2 p223 q223; obtain rfl : ad219 = ad223 := (by injection e223); replace hx223_0 := (HB.out.cell (World.block_lt_of_cell? w _ hx223_0)).trans hx223_0; replace p223 := eq_true p223; replace q223 := eq_true q223; have p233 : 0 ≤ (x7_2 : Int) := of_decide_eq_true (by first | (with_reducible assumption) | assumption); have q233 : x7_2 < (l0.length : Int) := of_decide_eq_true (by first | (with_reducible assumption) | assumption); obtain ⟨ad233, e233, hx233_0⟩ := Kd.at_int HR0.out x7_2 p233 q233; obtain rfl : ad219 = ad233 := (by injection e233); replace hx233_0 := (HB.out.cell (World.block_lt_of_cell? w _ hx233_0)).trans hx233_0; replace p233 := eq_true p233; replace q233 := eq_true q233; have p243 : 0 ≤ (x7_2 : Int) := of_decide_eq_true (by first | (with_reducible assumption) | assumption); have q243 : x7_2 < (l0.length : Int) := of_decide_eq_true (by first | (with_reducible assumption) | assumption); obtain ⟨ad243, e243, hx243_0⟩ := Kd.at_int HR0.out x7_2 p243 q243; obtain rfl : ad219 = ad243 := (by injection e243); replace hx243_0 := (HB.out.cell (World.block_lt_of_cell? w _ hx243_0)).trans hx243_0; replace p243 := eq_true p243; replace q243 := eq_true q243; obtain ⟨Ao66, co66, eo66⟩ := Kd.R_slice HO222.out; subst eo66; have q67 : ((ji59) : Int) ≤ ((t220.length : Int) : Int) := of_decide_eq_true (by first | (with_reducible assumption) | assumption); obtain ⟨i067, hi067, _, hsz67, _⟩ := info_parts info5; have hroom67 : t220.length ≤ co66 := (Kd.R_reads' HO222.out).2.1; have hC67 : Kd.C (Kd.int .u8) _ Ao66 t220.length t220 := (Kd.R_reads' HO222.out).2.2; have hcut67 := cut_to (P := Try.prog) 23 5 .i64 Try.underlying23 hi067 Ao66 t220.length co66 (ji59) (of_decide_eq_true (by first | (with_reducible assumption) | assumption)) q67 hroom67; have hr67 := Kd.C_take (m := ((ji59) : Int).toNat) hC67 (by omega); have hy67 : y244.length = ((ji59) : Int).toNat := (by rw [Ny244.out, List.length_take]; omega); rw [← Ny244.out] at hr67; rw [← hy67] at hcut67; have HR247 := Aside0.mk hr67; have HC247 := Aside0.mk (show y244.length ≤ co66 from by omega); clear hr67 hC67 hroom67 hi067 hsz67; have KY67 := Aside0.mk hy67; clear hy67; have KL67 := Aside0.mk (show ((ji59) : Int).toNat ≤ t220.length from by omega); replace q67 := eq_true q67) | ((with_reducible refine gate_callee (f := 12) rfl ?_); refine goesL_ (some 97) rfl rfl Try.func12 (by kernel_rfl) rfl #[.slice Ao66 y244.length co66] rfl (by (try simp only [List.map_toArray, List.map_cons, List.map_nil]); first | done | rfl | (simp only [List.length_drop, List.length_take]; rfl)) ?_; (with_reducible refine (utf_Valid.calls kj9 _ _ y244 t248 t249 _ ?side1 ?side2 A62.out).mono ?_); (case side1 => repeat (first | exact (by repeat (first | (with_reducible exact HR247.out) | (with_reducible refine Kd.C_alloc ?_ _) | (with_reducible refine Kd.C_drewN ?_ _) | (with_reducible refine Kd.C_drew ?_) | exact HR247.out)) | (with_reducible refine Kd.C_alloc ?_ _) | (with_reducible refine Kd.C_drewN ?_ _) | (with_reducible refine Kd.C_drew ?_))); (case side2 => exact HC247.out); rintro e w' ⟨rfl, ⟨nd, rfl⟩⟩; refine ⟨_, rfl, ?_⟩))
                                        go_ret
                                        exact ⟨by first | rfl | (simp [errW_none, errW_some] <;> rfl) | (simp only [← hji59]; first | rfl | (simp [errW_none, errW_some] <;> rfl)) | (simp [*, errW_none, errW_some] <;> rfl), by repeat (first | (with_reducible first | exact HB.out | apply below_alloc | apply pw_below_drewN | apply below_drew1) | exact HB.out)⟩
                                      · rw [if_neg c64] at H
                                        have c64b0 : (t249 != ((Int.tmod a1 2) == 0)) = false := by simpa using c64
                                        (try (have c64b1 : decide (t249 = ((Int.tmod a1 2) == 0)) = true := by simpa using c64))
                                        (try (have c64b2 : (t249 == ((Int.tmod a1 2) == 0)) = true := by simpa using c64))
                                        clear c64
                                        by_cases c68 : x6_2.length + t220.length < 140737488355328
                                        · rw [if_pos c68] at H
                                          have LMc68 := Aside0.mk c68
                                          clear c68
                                          obtain ⟨y250, hy250⟩ : ∃ y_ : List Int, y_ = (x6_2 ++ t220) := ⟨_, rfl⟩
                                          replace H : (abridgerlaw1_UtfBack.l0 kj9 l0 a1 y250 (wrap64 (x7_2 + 1))) = some r := by first | (rw [hy250]; with_reducible exact H) | (have H2_ := (Option.bind_some _ _).symm.trans H; rw [hy250]; with_reducible exact H2_) | (have H2_ := (Option.bind_some _ _).symm.trans H; with_reducible exact H2_) | with_reducible exact H | (rw [hy250]; exact H) | exact H
                                          have Ny250 := Aside0.mk hy250
                                          clear hy250
                                          have H' := Aside0.mk H
                                          clear H
                                          have p219 : 0 ≤ (x7_2 : Int) := of_decide_eq_true (by first | (with_reducible assumption) | assumption)
                                          have q219 : x7_2 < (l0.length : Int) := of_decide_eq_true (by first | (with_reducible assumption) | assumption)
                                          obtain ⟨ad219, e219, hx219_0⟩ := Kd.at_int HR0.out x7_2 p219 q219
                                          cases e219
                                          replace hx219_0 := (HB.out.cell (World.block_lt_of_cell? w _ hx219_0)).trans hx219_0
                                          replace p219 := eq_true p219
                                          replace q219 := eq_true q219
                                          go_wp2_with (first | ((with_reducible refine gate_callee (f := 9) rfl ?_); refine goesL_ (some 68) rfl rfl Try.func9 (by kernel_rfl) rfl #[.slice none 0 0, .int .i64 (rd l0 x7_2)] rfl (by (try simp only [List.map_toArray, List.map_cons, List.map_nil]); first | done | rfl | (simp only [List.length_drop, List.length_take]; rfl)) ?_; (refine (utf_Put.calls kj9 _ _ ([] : List Int) (rd l0 x7_2) t220 _ ?side1 ?side2 A18.out).mono ?_); (case side1 => exact Kd.C_nil _ _); (case side2 => exact Nat.le_refl _); rintro e w69 ⟨v221, rfl, ho0, hb⟩; refine ⟨_, rfl, ?_⟩; have n0_ := Aside0.mk (Kd.R_elder' (by (with_reducible repeat (first | apply Kd.R_alloc | apply Kd.R_drewN | apply Kd.R_drew)); exact HO_6.out) (Kd.R_base ho0) hb); have n1_ := Aside0.mk (Kd.R_lower (Kd.R_new' ho0 (Kd.R_lt (by (with_reducible repeat (first | apply Kd.R_alloc | apply Kd.R_drewN | apply Kd.R_drew)); exact HO_6.out))) (below_size (by repeat (first | (with_reducible first | exact HB.out | apply below_alloc | apply pw_below_drewN | apply below_drew1) | exact HB.out)))); have n2_ := Aside0.mk (below_step (by repeat (first | (with_reducible first | exact HB.out | apply below_alloc | apply pw_below_drewN | apply below_drew1) | exact HB.out)) hb); clear HO_6; clear HB; have HO_6 := n0_; have HO222 := n1_; have HB := n2_; clear n0_ n1_ n2_; (try clear hb); (try clear hb2); (try clear hk); (try clear hi); (try clear ho0); have p223 : 0 ≤ (x7_2 : Int) := of_decide_eq_true (by first | (with_reducible assumption) | assumption); have q223 : x7_2 < (l0.length : Int) := of_decide_eq_true (by first | (with_reducible assumption) | assumption); obtain ⟨ad223, e223, hx223_0⟩ := Kd.at_int HR0.out x7_2 p223 q223; obtain rfl : ad219 = ad223 := (by injection e223); replace hx223_0 := (HB.out.cell (World.block_lt_of_cell? w _ hx223_0)).trans hx223_0; replace p223 := eq_true p223; replace q223 := eq_true q223; have p233 : 0 ≤ (x7_2 : Int) := of_decide_eq_true (by first | (with_reducible assumption) | assumption); have q233 : x7_2 < (l0.length : Int) := of_decide_eq_true (by first | (with_reducible assumption) | assumption); obtain ⟨ad233, e233, hx233_0⟩ := Kd.at_int HR0.out x7_2 p233 q233; obtain rfl : ad219 = ad233 := (by injection e233); replace hx233_0 := (HB.out.cell (World.block_lt_of_cell? w _ hx233_0)).trans hx233_0; replace p233 := eq_true p233; replace q233 := eq_true q233; have p243 : 0 ≤ (x7_2 : Int) := of_decide_eq_true (by first | (with_reducible assumption) | assumption); have q243 : x7_2 < (l0.length : Int) := of_decide_eq_true (by first | (with_reducible assumption) | assumption); obtain ⟨ad243, e243, hx243_0⟩ := Kd.at_int HR0.out x7_2 p243 q243; obtain rfl : ad219 = ad243 := (by injection e243); replace hx243_0 := (HB.out.cell (World.block_lt_of_cell? w _ hx243_0)).trans hx243_0; replace p243 := eq_true p243; replace q243 := eq_true q243; obtain ⟨Ao70, co70, eo70⟩ := Kd.R_slice HO222.out; subst eo70; have q71 : ((ji59) : Int) ≤ ((t220.length : Int) : Int) := of_decide_eq_true (by first | (with_reducible assumption) | assumption); obtain ⟨i071, hi071, _, hsz71, _⟩ := info_parts info5; have hroom71 : t220.length ≤ co70 := (Kd.R_reads' HO222.out).2.1; have hC71 : Kd.C (Kd.int .u8) _ Ao70 t220.length t220 := (Kd.R_reads' HO222.out).2.2; have hcut71 := cut_to (P := Try.prog) 23 5 .i64 Try.underlying23 hi071 Ao70 t220.length co70 (ji59) (of_decide_eq_true (by first | (with_reducible assumption) | assumption)) q71 hroom71; have hr71 := Kd.C_take (m := ((ji59) : Int).toNat) hC71 (by omega); have hy71 : y244.length = ((ji59) : Int).toNat := (by rw [Ny244.out, List.length_take]; omega); rw [← Ny244.out] at hr71; rw [← hy71] at hcut71; have HR247 := Aside0.mk hr71; have HC247 := Aside0.mk (show y244.length ≤ co70 from by omega); clear hr71 hC71 hroom71 hi071 hsz71; have KY71 := Aside0.mk hy71; clear hy71; have KL71 := Aside0.mk (show ((ji59) : Int).toNat ≤ t220.length from by omega); replace q71 := eq_true q71) | ((with_reducible refine gate_callee (f := 12) rfl ?_); refine goesL_ (some 97) rfl rfl Try.func12 (by kernel_rfl) rfl #[.slice Ao70 y244.length co70] rfl (by (try simp only [List.map_toArray, List.map_cons, List.map_nil]); first | done | rfl | (simp only [List.length_drop, List.length_take]; rfl)) ?_; (with_reducible refine (utf_Valid.calls kj9 _ _ y244 t248 t249 _ ?side1 ?side2 A62.out).mono ?_); (case side1 => repeat (first | exact (by repeat (first | (with_reducible exact HR247.out) | (with_reducible refine Kd.C_alloc ?_ _) | (with_reducible refine Kd.C_drewN ?_ _) | (with_reducible refine Kd.C_drew ?_) | exact HR247.out)) | (with_reducible refine Kd.C_alloc ?_ _) | (with_reducible refine Kd.C_drewN ?_ _) | (with_reducible refine Kd.C_drew ?_))); (case side2 => exact HC247.out); rintro e w' ⟨rfl, ⟨nd, rfl⟩⟩; refine ⟨_, rfl, ?_⟩) | ((with_reducible refine gate_builtin (b := .append) (xs := #[(.tmp 112), (.tmp 113)]) rfl ?_); (try (refine gate_guard (by rfl) ?_; dsimp only)); at_builtin; refine Kd.R_append_rows (Kd.int .u8) (w0 := w) w.heap.size rfl (.tmp 112) (.tmp 113) 23 5 (.int .u8 0) 1 rfl Try.underlying23 info5 rfl (by decide) (by omega) u6 x6_2 t220 _ _ _ (fun k_ => some k_ ≠ (.slice Ao70 t220.length co70 : Value).ownBlock) (fun _ => False) rfl rfl ?aO ?aR (fun _ _ h => h) (fun _ h => h.elim) ?aF ?aB ?aS ?aL ?_; (case aR => repeat (first | exact (Kd.R_reads' HO222.out).2.2 | (with_reducible refine Kd.C_alloc ?_ _) | (with_reducible refine Kd.C_drewN ?_ _) | (with_reducible refine Kd.C_drew ?_))); (case aB => exact (by repeat (first | (with_reducible first | exact HB.out | apply below_alloc | apply pw_below_drewN | apply below_drew1) | exact HB.out))); (case aF => exact (fun k_ hk => Kd.fresh' (Kd.R_lt (by (with_reducible repeat (first | apply Kd.R_alloc | apply Kd.R_drewN | apply Kd.R_drew)); exact HO222.out)) k_ hk)); (case aO => exact (by (with_reducible repeat (first | apply Kd.R_alloc | apply Kd.R_drewN | apply Kd.R_drew)); exact Kd.R_mono HO_6.out (fun _ hk => hk.2))); (case aS => exact (below_size (by repeat (first | (with_reducible first | exact HB.out | apply below_alloc | apply pw_below_drewN | apply below_drew1) | exact HB.out)))); (case aL => have := LMc68.out; omega); intro v251 w72 ho hb hg hat; rw [← Ny250.out] at ho; have n0_ := Aside0.mk (Kd.R_after (ok := (fun _ => True)) (by (with_reducible repeat (first | apply Kd.R_alloc | apply Kd.R_drewN | apply Kd.R_drew)); exact HO222.out) hg hat); have n1_ := Aside0.mk (hb); have n2_ := Aside0.mk ((show Kd.C (Kd.int .u8) w72 Ao70 y244.length y244 from by rw [Ny244.out]; exact Kd.C_take (m := ((ji59) : Int).toNat) ((Kd.R_reads' (Kd.R_after (ok := (fun _ => True)) (by (with_reducible repeat (first | apply Kd.R_alloc | apply Kd.R_drewN | apply Kd.R_drew)); exact HO222.out) hg hat)).2.2) KL71.out)); have n3_ := Aside0.mk (ho); clear HO222; clear HB; clear HR247; clear HO_6; have HO222 := n0_; have HB := n1_; have HR247 := n2_; have HO252 := n3_; clear n0_ n1_ n2_ n3_; clear ho hb hg hat))
                                          go_roundg kj9
                                          case measure => have := HJ3.out; have := HK2.out; have := HJ9.out; omega
                                          case rel => exact ⟨(y250), (wrap64 (x7_2 + 1)), (by first | rfl | (simp; done) | (simp [*]; done)), H', ⟨by have := HJ3.out; have := HK2.out; have := HJ9.out; omega⟩, ⟨by (with_reducible repeat (first | apply Kd.R_alloc | apply Kd.R_drewN | apply Kd.R_drew)); exact Kd.R_mono HO252.out (fun _ hk => trivial)⟩, ⟨by repeat (first | (with_reducible first | exact HB.out | apply below_alloc | apply pw_below_drewN | apply below_drew1) | exact HB.out)⟩⟩
                                        · rw [if_neg c68] at H
                                          exact absurd H (by simp)
                                    · rw [if_neg c63] at H
                                      have c63b0 : ((t220.length : Int) == 2) = false := beq_eq_false_iff_ne.mpr c63
                                      have c63b1 : ((t220.length : Int) != 2) = true := bne_iff_ne.mpr c63
                                      obtain rfl := Option.some.inj H
                                      have p219 : 0 ≤ (x7_2 : Int) := of_decide_eq_true (by first | (with_reducible assumption) | assumption)
                                      have q219 : x7_2 < (l0.length : Int) := of_decide_eq_true (by first | (with_reducible assumption) | assumption)
                                      obtain ⟨ad219, e219, hx219_0⟩ := Kd.at_int HR0.out x7_2 p219 q219
                                      cases e219
                                      replace hx219_0 := (HB.out.cell (World.block_lt_of_cell? w _ hx219_0)).trans hx219_0
                                      replace p219 := eq_true p219
                                      replace q219 := eq_true q219
                                      go_wp2_with (first | ((with_reducible refine gate_callee (f := 9) rfl ?_); refine goesL_ (some 68) rfl rfl Try.func9 (by kernel_rfl) rfl #[.slice none 0 0, .int .i64 (rd l0 x7_2)] rfl (by (try simp only [List.map_toArray, List.map_cons, List.map_nil]); first | done | rfl | (simp only [List.length_drop, List.length_take]; rfl)) ?_; (refine (utf_Put.calls kj9 _ _ ([] : List Int) (rd l0 x7_2) t220 _ ?side1 ?side2 A18.out).mono ?_); (case side1 => exact Kd.C_nil _ _); (case side2 => exact Nat.le_refl _); rintro e w73 ⟨v221, rfl, ho0, hb⟩; refine ⟨_, rfl, ?_⟩; have n0_ := Aside0.mk (Kd.R_elder' (by (with_reducible repeat (first | apply Kd.R_alloc | apply Kd.R_drewN | apply Kd.R_drew)); exact HO_6.out) (Kd.R_base ho0) hb); have n1_ := Aside0.mk (Kd.R_lower (Kd.R_new' ho0 (Kd.R_lt (by (with_reducible repeat (first | apply Kd.R_alloc | apply Kd.R_drewN | apply Kd.R_drew)); exact HO_6.out))) (below_size (by repeat (first | (with_reducible first | exact HB.out | apply below_alloc | apply pw_below_drewN | apply below_drew1) | exact HB.out)))); have n2_ := Aside0.mk (below_step (by repeat (first | (with_reducible first | exact HB.out | apply below_alloc | apply pw_below_drewN | apply below_drew1) | exact HB.out)) hb); clear HO_6; clear HB; have HO_6 := n0_; have HO222 := n1_; have HB := n2_; clear n0_ n1_ n2_; (try clear hb); (try clear hb2); (try clear hk); (try clear hi); (try clear ho0); have p223 : 0 ≤ (x7_2 : Int) := of_decide_eq_true (by first | (with_reducible assumption) | assumption); have q223 : x7_2 < (l0.length : Int) := of_decide_eq_true (by first | (with_reducible assumption) | assumption); obtain ⟨ad223, e223, hx223_0⟩ := Kd.at_int HR0.out x7_2 p223 q223; obtain rfl : ad219 = ad223 := (by injection e223); replace hx223_0 := (HB.out.cell (World.block_lt_of_cell? w _ hx223_0)).trans hx223_0; replace p223 := eq_true p223; replace q223 := eq_true q223; have p233 : 0 ≤ (x7_2 : Int) := of_decide_eq_true (by first | (with_reducible assumption) | assumption); have q233 : x7_2 < (l0.length : Int) := of_decide_eq_true (by first | (with_reducible assumption) | assumption); obtain ⟨ad233, e233, hx233_0⟩ := Kd.at_int HR0.out x7_2 p233 q233; obtain rfl : ad219 = ad233 := (by injection e233); replace hx233_0 := (HB.out.cell (World.block_lt_of_cell? w _ hx233_0)).trans hx233_0; replace p233 := eq_true p233; replace q233 := eq_true q233; have p243 : 0 ≤ (x7_2 : Int) := of_decide_eq_true (by first | (with_reducible assumption) | assumption); have q243 : x7_2 < (l0.length : Int) := of_decide_eq_true (by first | (with_reducible assumption) | assumption); obtain ⟨ad243, e243, hx243_0⟩ := Kd.at_int HR0.out x7_2 p243 q243; obtain rfl : ad219 = ad243 := (by injection e243); replace hx243_0 := (HB.out.cell (World.block_lt_of_cell? w _ hx243_0)).trans hx243_0; replace p243 := eq_true p243; replace q243 := eq_true q243; obtain ⟨Ao74, co74, eo74⟩ := Kd.R_slice HO222.out; subst eo74; have q75 : ((ji59) : Int) ≤ ((t220.length : Int) : Int) := of_decide_eq_true (by first | (with_reducible assumption) | assumption); obtain ⟨i075, hi075, _, hsz75, _⟩ := info_parts info5; have hroom75 : t220.length ≤ co74 := (Kd.R_reads' HO222.out).2.1; have hC75 : Kd.C (Kd.int .u8) _ Ao74 t220.length t220 := (Kd.R_reads' HO222.out).2.2; have hcut75 := cut_to (P := Try.prog) 23 5 .i64 Try.underlying23 hi075 Ao74 t220.length co74 (ji59) (of_decide_eq_true (by first | (with_reducible assumption) | assumption)) q75 hroom75; have hr75 := Kd.C_take (m := ((ji59) : Int).toNat) hC75 (by omega); have hy75 : y244.length = ((ji59) : Int).toNat := (by rw [Ny244.out, List.length_take]; omega); rw [← Ny244.out] at hr75; rw [← hy75] at hcut75; have HR247 := Aside0.mk hr75; have HC247 := Aside0.mk (show y244.length ≤ co74 from by omega); clear hr75 hC75 hroom75 hi075 hsz75; have KY75 := Aside0.mk hy75; clear hy75; have KL75 := Aside0.mk (show ((ji59) : Int).toNat ≤ t220.length from by omega); replace q75 := eq_true q75) | ((with_reducible refine gate_callee (f := 12) rfl ?_); refine goesL_ (some 97) rfl rfl Try.func12 (by kernel_rfl) rfl #[.slice Ao74 y244.length co74] rfl (by (try simp only [List.map_toArray, List.map_cons, List.map_nil]); first | done | rfl | (simp only [List.length_drop, List.length_take]; rfl)) ?_; (with_reducible refine (utf_Valid.calls kj9 _ _ y244 t248 t249 _ ?side1 ?side2 A62.out).mono ?_); (case side1 => repeat (first | exact (by repeat (first | (with_reducible exact HR247.out) | (with_reducible refine Kd.C_alloc ?_ _) | (with_reducible refine Kd.C_drewN ?_ _) | (with_reducible refine Kd.C_drew ?_) | exact HR247.out)) | (with_reducible refine Kd.C_alloc ?_ _) | (with_reducible refine Kd.C_drewN ?_ _) | (with_reducible refine Kd.C_drew ?_))); (case side2 => exact HC247.out); rintro e w' ⟨rfl, ⟨nd, rfl⟩⟩; refine ⟨_, rfl, ?_⟩))
                                      go_ret
                                      exact ⟨by first | rfl | (simp [errW_none, errW_some] <;> rfl) | (simp only [← hji59]; first | rfl | (simp [errW_none, errW_some] <;> rfl)) | (simp [*, errW_none, errW_some] <;> rfl), by repeat (first | (with_reducible first | exact HB.out | apply below_alloc | apply pw_below_drewN | apply below_drew1) | exact HB.out)⟩
                                  · rw [if_neg c61] at H
                                    exact absurd H (by simp)
                                · rw [if_neg c60] at H
                                  exact absurd H (by simp)
                            · rw [if_neg c57] at H
                              have c57b0 : decide (128 ≤ (rd l0 x7_2)) = false := decide_eq_false c57
                              clear c57
                              by_cases c76 : (wrap64 ((t220.length : Int) + 1)) = 0
                              · rw [if_pos c76] at H
                                exact absurd H (by simp)
                              · rw [if_neg c76] at H
                                have c76b0 : ((wrap64 ((t220.length : Int) + 1)) == 0) = false := beq_eq_false_iff_ne.mpr c76
                                have c76b1 : ((wrap64 ((t220.length : Int) + 1)) != 0) = true := bne_iff_ne.mpr c76
                                by_cases c77 : 0 ≤ (t220.length : Int)
                                · rw [if_pos c77] at H
                                  have c77b0 := eq_true c77
                                  have c77b1 : decide (0 ≤ (t220.length : Int)) = true := decide_eq_true c77
                                  clear c77
                                  obtain ⟨y253, hy253⟩ : ∃ y_ : List Int, y_ = (t220.take 0) := ⟨_, rfl⟩
                                  replace H : ((utf_Valid.f kj9 y253).bind fun bt257 => (if (t220.length : Int) = 1 then (if bt257.2 = true then (if x6_2.length + t220.length < 140737488355328 then (abridgerlaw1_UtfBack.l0 kj9 l0 a1 (x6_2 ++ t220) (wrap64 (x7_2 + 1))) else (none)) else (some false)) else (some false))) = some r := by first | (rw [hy253]; with_reducible exact H) | (have H2_ := (Option.bind_some _ _).symm.trans H; rw [hy253]; with_reducible exact H2_) | (have H2_ := (Option.bind_some _ _).symm.trans H; with_reducible exact H2_) | with_reducible exact H | (rw [hy253]; exact H) | exact H
                                  have Ny253 := Aside0.mk hy253
                                  clear hy253
                                  replace H := Option.bind_eq_some_iff.mp H
                                  obtain ⟨⟨t257, t258⟩, A780, H⟩ := H
                                  replace H : (if (t220.length : Int) = 1 then (if t258 = true then (if x6_2.length + t220.length < 140737488355328 then (abridgerlaw1_UtfBack.l0 kj9 l0 a1 (x6_2 ++ t220) (wrap64 (x7_2 + 1))) else (none)) else (some false)) else (some false)) = some r := H
                                  have A78 := Aside0.mk A780
                                  clear A780
                                  by_cases c79 : (t220.length : Int) = 1
                                  · rw [if_pos c79] at H
                                    have c79b0 : ((t220.length : Int) == 1) = true := beq_iff_eq.mpr c79
                                    have c79b1 : ((t220.length : Int) != 1) = false := bne_eq_false_iff_eq.mpr c79
                                    clear c79
                                    by_cases c80 : t258 = true
                                    · subst c80
                                      have H1 : (if x6_2.length + t220.length < 140737488355328 then (abridgerlaw1_UtfBack.l0 kj9 l0 a1 (x6_2 ++ t220) (wrap64 (x7_2 + 1))) else (none)) = some r := by rw [if_pos rfl] at H; exact H
                                      clear H
                                      have H := H1
                                      clear H1
                                      by_cases c81 : x6_2.length + t220.length < 140737488355328
                                      · rw [if_pos c81] at H
                                        have LMc81 := Aside0.mk c81
                                        clear c81
                                        obtain ⟨y259, hy259⟩ : ∃ y_ : List Int, y_ = (x6_2 ++ t220) := ⟨_, rfl⟩
                                        replace H : (abridgerlaw1_UtfBack.l0 kj9 l0 a1 y259 (wrap64 (x7_2 + 1))) = some r := by first | (rw [hy259]; with_reducible exact H) | (have H2_ := (Option.bind_some _ _).symm.trans H; rw [hy259]; with_reducible exact H2_) | (have H2_ := (Option.bind_some _ _).symm.trans H; with_reducible exact H2_) | with_reducible exact H | (rw [hy259]; exact H) | exact H
                                        have Ny259 := Aside0.mk hy259
                                        clear hy259
                                        have H' := Aside0.mk H
                                        clear H
                                        have p219 : 0 ≤ (x7_2 : Int) := of_decide_eq_true (by first | (with_reducible assumption) | assumption)
                                        have q219 : x7_2 < (l0.length : Int) := of_decide_eq_true (by first | (with_reducible assumption) | assumption)
                                        obtain ⟨ad219, e219, hx219_0⟩ := Kd.at_int HR0.out x7_2 p219 q219
                                        cases e219
                                        replace hx219_0 := (HB.out.cell (World.block_lt_of_cell? w _ hx219_0)).trans hx219_0
                                        replace p219 := eq_true p219
                                        replace q219 := eq_true q219
                                        go_wp2_with (first | ((with_reducible refine gate_callee (f := 9) rfl ?_); refine goesL_ (some 68) rfl rfl Try.func9 (by kernel_rfl) rfl #[.slice none 0 0, .int .i64 (rd l0 x7_2)] rfl (by (try simp only [List.map_toArray, List.map_cons, List.map_nil]); first | done | rfl | (simp only [List.length_drop, List.length_take]; rfl)) ?_; (refine (utf_Put.calls kj9 _ _ ([] : List Int) (rd l0 x7_2) t220 _ ?side1 ?side2 A18.out).mono ?_); (case side1 => exact Kd.C_nil _ _); (case side2 => exact Nat.le_refl _); rintro e w82 ⟨v221, rfl, ho0, hb⟩; refine ⟨_, rfl, ?_⟩; have n0_ := Aside0.mk (Kd.R_elder' (by (with_reducible repeat (first | apply Kd.R_alloc | apply Kd.R_drewN | apply Kd.R_drew)); exact HO_6.out) (Kd.R_base ho0) hb); have n1_ := Aside0.mk (Kd.R_lower (Kd.R_new' ho0 (Kd.R_lt (by (with_reducible repeat (first | apply Kd.R_alloc | apply Kd.R_drewN | apply Kd.R_drew)); exact HO_6.out))) (below_size (by repeat (first | (with_reducible first | exact HB.out | apply below_alloc | apply pw_below_drewN | apply below_drew1) | exact HB.out)))); have n2_ := Aside0.mk (below_step (by repeat (first | (with_reducible first | exact HB.out | apply below_alloc | apply pw_below_drewN | apply below_drew1) | exact HB.out)) hb); clear HO_6; clear HB; have HO_6 := n0_; have HO222 := n1_; have HB := n2_; clear n0_ n1_ n2_; (try clear hb); (try clear hb2); (try clear hk); (try clear hi); (try clear ho0); have p223 : 0 ≤ (x7_2 : Int) := of_decide_eq_true (by first | (with_reducible assumption) | assumption); have q223 : x7_2 < (l0.length : Int) := of_decide_eq_true (by first | (with_reducible assumption) | assumption); obtain ⟨ad223, e223, hx223_0⟩ := Kd.at_int HR0.out x7_2 p223 q223; obtain rfl : ad219 = ad223 := (by injection e223); replace hx223_0 := (HB.out.cell (World.block_lt_of_cell? w _ hx223_0)).trans hx223_0; replace p223 := eq_true p223; replace q223 := eq_true q223; have p233 : 0 ≤ (x7_2 : Int) := of_decide_eq_true (by first | (with_reducible assumption) | assumption); have q233 : x7_2 < (l0.length : Int) := of_decide_eq_true (by first | (with_reducible assumption) | assumption); obtain ⟨ad233, e233, hx233_0⟩ := Kd.at_int HR0.out x7_2 p233 q233; obtain rfl : ad219 = ad233 := (by injection e233); replace hx233_0 := (HB.out.cell (World.block_lt_of_cell? w _ hx233_0)).trans hx233_0; replace p233 := eq_true p233; replace q233 := eq_true q233; have p243 : 0 ≤ (x7_2 : Int) := of_decide_eq_true (by first | (with_reducible assumption) | assumption); have q243 : x7_2 < (l0.length : Int) := of_decide_eq_true (by first | (with_reducible assumption) | assumption); obtain ⟨ad243, e243, hx243_0⟩ := Kd.at_int HR0.out x7_2 p243 q243; obtain rfl : ad219 = ad243 := (by injection e243); replace hx243_0 := (HB.out.cell (World.block_lt_of_cell? w _ hx243_0)).trans hx243_0; replace p243 := eq_true p243; replace q243 := eq_true q243; obtain ⟨Ao83, co83, eo83⟩ := Kd.R_slice HO222.out; subst eo83; have q84 : (0 : Int) ≤ ((t220.length : Int) : Int) := of_decide_eq_true (by first | (with_reducible assumption) | assumption); obtain ⟨i084, hi084, _, hsz84, _⟩ := info_parts info5; have hroom84 : t220.length ≤ co83 := (Kd.R_reads' HO222.out).2.1; have hC84 : Kd.C (Kd.int .u8) _ Ao83 t220.length t220 := (Kd.R_reads' HO222.out).2.2; have hcut84 := cut_to (P := Try.prog) 23 5 .i64 Try.underlying23 hi084 Ao83 t220.length co83 0 (by omega) q84 hroom84; have hr84 := Kd.C_take (m := 0) hC84 (by omega); have hy84 : y253.length = (0 : Int).toNat := (by rw [Ny253.out, List.length_take]; omega); rw [← Ny253.out] at hr84; rw [← hy84] at hcut84; have HR256 := Aside0.mk hr84; have HC256 := Aside0.mk (show y253.length ≤ co83 from by omega); clear hr84 hC84 hroom84 hi084 hsz84; have KY84 := Aside0.mk hy84; clear hy84; have KL84 := Aside0.mk (show 0 ≤ t220.length from by omega); replace q84 := eq_true q84) | ((with_reducible refine gate_callee (f := 12) rfl ?_); refine goesL_ (some 97) rfl rfl Try.func12 (by kernel_rfl) rfl #[.slice Ao83 y253.length co83] rfl (by (try simp only [List.map_toArray, List.map_cons, List.map_nil]); first | done | rfl | (simp only [List.length_drop, List.length_take]; rfl)) ?_; (with_reducible refine (utf_Valid.calls kj9 _ _ y253 t257 true _ ?side1 ?side2 A78.out).mono ?_); (case side1 => repeat (first | exact (by repeat (first | (with_reducible exact HR256.out) | (with_reducible refine Kd.C_alloc ?_ _) | (with_reducible refine Kd.C_drewN ?_ _) | (with_reducible refine Kd.C_drew ?_) | exact HR256.out)) | (with_reducible refine Kd.C_alloc ?_ _) | (with_reducible refine Kd.C_drewN ?_ _) | (with_reducible refine Kd.C_drew ?_))); (case side2 => exact HC256.out); rintro e w' ⟨rfl, ⟨nd, rfl⟩⟩; refine ⟨_, rfl, ?_⟩) | ((with_reducible refine gate_builtin (b := .append) (xs := #[(.tmp 112), (.tmp 113)]) rfl ?_); (try (refine gate_guard (by rfl) ?_; dsimp only)); at_builtin; refine Kd.R_append_rows (Kd.int .u8) (w0 := w) w.heap.size rfl (.tmp 112) (.tmp 113) 23 5 (.int .u8 0) 1 rfl Try.underlying23 info5 rfl (by decide) (by omega) u6 x6_2 t220 _ _ _ (fun k_ => some k_ ≠ (.slice Ao83 t220.length co83 : Value).ownBlock) (fun _ => False) rfl rfl ?aO ?aR (fun _ _ h => h) (fun _ h => h.elim) ?aF ?aB ?aS ?aL ?_; (case aR => repeat (first | exact (Kd.R_reads' HO222.out).2.2 | (with_reducible refine Kd.C_alloc ?_ _) | (with_reducible refine Kd.C_drewN ?_ _) | (with_reducible refine Kd.C_drew ?_))); (case aB => exact (by repeat (first | (with_reducible first | exact HB.out | apply below_alloc | apply pw_below_drewN | apply below_drew1) | exact HB.out))); (case aF => exact (fun k_ hk => Kd.fresh' (Kd.R_lt (by (with_reducible repeat (first | apply Kd.R_alloc | apply Kd.R_drewN | apply Kd.R_drew)); exact HO222.out)) k_ hk)); (case aO => exact (by (with_reducible repeat (first | apply Kd.R_alloc | apply Kd.R_drewN | apply Kd.R_drew)); exact Kd.R_mono HO_6.out (fun _ hk => hk.2))); (case aS => exact (below_size (by repeat (first | (with_reducible first | exact HB.out | apply below_alloc | apply pw_below_drewN | apply below_drew1) | exact HB.out)))); (case aL => have := LMc81.out; omega); intro v260 w85 ho hb hg hat; rw [← Ny259.out] at ho; have n0_ := Aside0.mk (Kd.R_after (ok := (fun _ => True)) (by (with_reducible repeat (first | apply Kd.R_alloc | apply Kd.R_drewN | apply Kd.R_drew)); exact HO222.out) hg hat); have n1_ := Aside0.mk (hb); have n2_ := Aside0.mk ((show Kd.C (Kd.int .u8) w85 Ao83 y253.length y253 from by rw [Ny253.out]; exact Kd.C_take (m := 0) ((Kd.R_reads' (Kd.R_after (ok := (fun _ => True)) (by (with_reducible repeat (first | apply Kd.R_alloc | apply Kd.R_drewN | apply Kd.R_drew)); exact HO222.out) hg hat)).2.2) KL84.out)); have n3_ := Aside0.mk (ho); clear HO222; clear HB; clear HR256; clear HO_6; have HO222 := n0_; have HB := n1_; have HR256 := n2_; have HO261 := n3_; clear n0_ n1_ n2_ n3_; clear ho hb hg hat))
                                        go_roundg kj9
                                        case measure => have := HJ3.out; have := HK2.out; have := HJ9.out; omega
                                        case rel => exact ⟨(y259), (wrap64 (x7_2 + 1)), (by first | rfl | (simp; done) | (simp [*]; done)), H', ⟨by have := HJ3.out; have := HK2.out; have := HJ9.out; omega⟩, ⟨by (with_reducible repeat (first | apply Kd.R_alloc | apply Kd.R_drewN | apply Kd.R_drew)); exact Kd.R_mono HO261.out (fun _ hk => trivial)⟩, ⟨by repeat (first | (with_reducible first | exact HB.out | apply below_alloc | apply pw_below_drewN | apply below_drew1) | exact HB.out)⟩⟩
                                      · rw [if_neg c81] at H
                                        exact absurd H (by simp)
                                    · replace c80 := Bool.eq_false_iff.mpr c80
                                      subst c80
                                      have H1 : (some false) = some r := by rw [if_neg (show ¬ (false = true) by decide)] at H; exact H
                                      clear H
                                      have H := H1
                                      clear H1
                                      obtain rfl := Option.some.inj H
                                      have p219 : 0 ≤ (x7_2 : Int) := of_decide_eq_true (by first | (with_reducible assumption) | assumption)
                                      have q219 : x7_2 < (l0.length : Int) := of_decide_eq_true (by first | (with_reducible assumption) | assumption)
                                      obtain ⟨ad219, e219, hx219_0⟩ := Kd.at_int HR0.out x7_2 p219 q219
                                      cases e219
                                      replace hx219_0 := (HB.out.cell (World.block_lt_of_cell? w _ hx219_0)).trans hx219_0
                                      replace p219 := eq_true p219
                                      replace q219 := eq_true q219
                                      go_wp2_with (first | ((with_reducible refine gate_callee (f := 9) rfl ?_); refine goesL_ (some 68) rfl rfl Try.func9 (by kernel_rfl) rfl #[.slice none 0 0, .int .i64 (rd l0 x7_2)] rfl (by (try simp only [List.map_toArray, List.map_cons, List.map_nil]); first | done | rfl | (simp only [List.length_drop, List.length_take]; rfl)) ?_; (refine (utf_Put.calls kj9 _ _ ([] : List Int) (rd l0 x7_2) t220 _ ?side1 ?side2 A18.out).mono ?_); (case side1 => exact Kd.C_nil _ _); (case side2 => exact Nat.le_refl _); rintro e w86 ⟨v221, rfl, ho0, hb⟩; refine ⟨_, rfl, ?_⟩; have n0_ := Aside0.mk (Kd.R_elder' (by (with_reducible repeat (first | apply Kd.R_alloc | apply Kd.R_drewN | apply Kd.R_drew)); exact HO_6.out) (Kd.R_base ho0) hb); have n1_ := Aside0.mk (Kd.R_lower (Kd.R_new' ho0 (Kd.R_lt (by (with_reducible repeat (first | apply Kd.R_alloc | apply Kd.R_drewN | apply Kd.R_drew)); exact HO_6.out))) (below_size (by repeat (first | (with_reducible first | exact HB.out | apply below_alloc | apply pw_below_drewN | apply below_drew1) | exact HB.out)))); have n2_ := Aside0.mk (below_step (by repeat (first | (with_reducible first | exact HB.out | apply below_alloc | apply pw_below_drewN | apply below_drew1) | exact HB.out)) hb); clear HO_6; clear HB; have HO_6 := n0_; have HO222 := n1_; have HB := n2_; clear n0_ n1_ n2_; (try clear hb); (try clear hb2); (try clear hk); (try clear hi); (try clear ho0); have p223 : 0 ≤ (x7_2 : Int) := of_decide_eq_true (by first | (with_reducible assumption) | assumption); have q223 : x7_2 < (l0.length : Int) := of_decide_eq_true (by first | (with_reducible assumption) | assumption); obtain ⟨ad223, e223, hx223_0⟩ := Kd.at_int HR0.out x7_2 p223 q223; obtain rfl : ad219 = ad223 := (by injection e223); replace hx223_0 := (HB.out.cell (World.block_lt_of_cell? w _ hx223_0)).trans hx223_0; replace p223 := eq_true p223; replace q223 := eq_true q223; have p233 : 0 ≤ (x7_2 : Int) := of_decide_eq_true (by first | (with_reducible assumption) | assumption); have q233 : x7_2 < (l0.length : Int) := of_decide_eq_true (by first | (with_reducible assumption) | assumption); obtain ⟨ad233, e233, hx233_0⟩ := Kd.at_int HR0.out x7_2 p233 q233; obtain rfl : ad219 = ad233 := (by injection e233); replace hx233_0 := (HB.out.cell (World.block_lt_of_cell? w _ hx233_0)).trans hx233_0; replace p233 := eq_true p233; replace q233 := eq_true q233; have p243 : 0 ≤ (x7_2 : Int) := of_decide_eq_true (by first | (with_reducible assumption) | assumption); have q243 : x7_2 < (l0.length : Int) := of_decide_eq_true (by first | (with_reducible assumption) | assumption); obtain ⟨ad243, e243, hx243_0⟩ := Kd.at_int HR0.out x7_2 p243 q243; obtain rfl : ad219 = ad243 := (by injection e243); replace hx243_0 := (HB.out.cell (World.block_lt_of_cell? w _ hx243_0)).trans hx243_0; replace p243 := eq_true p243; replace q243 := eq_true q243; obtain ⟨Ao87, co87, eo87⟩ := Kd.R_slice HO222.out; subst eo87; have q88 : (0 : Int) ≤ ((t220.length : Int) : Int) := of_decide_eq_true (by first | (with_reducible assumption) | assumption); obtain ⟨i088, hi088, _, hsz88, _⟩ := info_parts info5; have hroom88 : t220.length ≤ co87 := (Kd.R_reads' HO222.out).2.1; have hC88 : Kd.C (Kd.int .u8) _ Ao87 t220.length t220 := (Kd.R_reads' HO222.out).2.2; have hcut88 := cut_to (P := Try.prog) 23 5 .i64 Try.underlying23 hi088 Ao87 t220.length co87 0 (by omega) q88 hroom88; have hr88 := Kd.C_take (m := 0) hC88 (by omega); have hy88 : y253.length = (0 : Int).toNat := (by rw [Ny253.out, List.length_take]; omega); rw [← Ny253.out] at hr88; rw [← hy88] at hcut88; have HR256 := Aside0.mk hr88; have HC256 := Aside0.mk (show y253.length ≤ co87 from by omega); clear hr88 hC88 hroom88 hi088 hsz88; have KY88 := Aside0.mk hy88; clear hy88; have KL88 := Aside0.mk (show 0 ≤ t220.length from by omega); replace q88 := eq_true q88) | ((with_reducible refine gate_callee (f := 12) rfl ?_); refine goesL_ (some 97) rfl rfl Try.func12 (by kernel_rfl) rfl #[.slice Ao87 y253.length co87] rfl (by (try simp only [List.map_toArray, List.map_cons, List.map_nil]); first | done | rfl | (simp only [List.length_drop, List.length_take]; rfl)) ?_; (with_reducible refine (utf_Valid.calls kj9 _ _ y253 t257 false _ ?side1 ?side2 A78.out).mono ?_); (case side1 => repeat (first | exact (by repeat (first | (with_reducible exact HR256.out) | (with_reducible refine Kd.C_alloc ?_ _) | (with_reducible refine Kd.C_drewN ?_ _) | (with_reducible refine Kd.C_drew ?_) | exact HR256.out)) | (with_reducible refine Kd.C_alloc ?_ _) | (with_reducible refine Kd.C_drewN ?_ _) | (with_reducible refine Kd.C_drew ?_))); (case side2 => exact HC256.out); rintro e w' ⟨rfl, ⟨nd, rfl⟩⟩; refine ⟨_, rfl, ?_⟩))
                                      go_ret
                                      exact ⟨by first | rfl | (simp [errW_none, errW_some] <;> rfl) | (simp [*, errW_none, errW_some] <;> rfl), by repeat (first | (with_reducible first | exact HB.out | apply below_alloc | apply pw_below_drewN | apply below_drew1) | exact HB.out)⟩
                                  · rw [if_neg c79] at H
                                    have c79b0 : ((t220.length : Int) == 1) = false := beq_eq_false_iff_ne.mpr c79
                                    have c79b1 : ((t220.length : Int) != 1) = true := bne_iff_ne.mpr c79
                                    obtain rfl := Option.some.inj H
                                    have p219 : 0 ≤ (x7_2 : Int) := of_decide_eq_true (by first | (with_reducible assumption) | assumption)
                                    have q219 : x7_2 < (l0.length : Int) := of_decide_eq_true (by first | (with_reducible assumption) | assumption)
                                    obtain ⟨ad219, e219, hx219_0⟩ := Kd.at_int HR0.out x7_2 p219 q219
                                    cases e219
                                    replace hx219_0 := (HB.out.cell (World.block_lt_of_cell? w _ hx219_0)).trans hx219_0
                                    replace p219 := eq_true p219
                                    replace q219 := eq_true q219
                                    go_wp2_with (first | ((with_reducible refine gate_callee (f := 9) rfl ?_); refine goesL_ (some 68) rfl rfl Try.func9 (by kernel_rfl) rfl #[.slice none 0 0, .int .i64 (rd l0 x7_2)] rfl (by (try simp only [List.map_toArray, List.map_cons, List.map_nil]); first | done | rfl | (simp only [List.length_drop, List.length_take]; rfl)) ?_; (refine (utf_Put.calls kj9 _ _ ([] : List Int) (rd l0 x7_2) t220 _ ?side1 ?side2 A18.out).mono ?_); (case side1 => exact Kd.C_nil _ _); (case side2 => exact Nat.le_refl _); rintro e w89 ⟨v221, rfl, ho0, hb⟩; refine ⟨_, rfl, ?_⟩; have n0_ := Aside0.mk (Kd.R_elder' (by (with_reducible repeat (first | apply Kd.R_alloc | apply Kd.R_drewN | apply Kd.R_drew)); exact HO_6.out) (Kd.R_base ho0) hb); have n1_ := Aside0.mk (Kd.R_lower (Kd.R_new' ho0 (Kd.R_lt (by (with_reducible repeat (first | apply Kd.R_alloc | apply Kd.R_drewN | apply Kd.R_drew)); exact HO_6.out))) (below_size (by repeat (first | (with_reducible first | exact HB.out | apply below_alloc | apply pw_below_drewN | apply below_drew1) | exact HB.out)))); have n2_ := Aside0.mk (below_step (by repeat (first | (with_reducible first | exact HB.out | apply below_alloc | apply pw_below_drewN | apply below_drew1) | exact HB.out)) hb); clear HO_6; clear HB; have HO_6 := n0_; have HO222 := n1_; have HB := n2_; clear n0_ n1_ n2_; (try clear hb); (try clear hb2); (try clear hk); (try clear hi); (try clear ho0); have p223 : 0 ≤ (x7_2 : Int) := of_decide_eq_true (by first | (with_reducible assumption) | assumption); have q223 : x7_2 < (l0.length : Int) := of_decide_eq_true (by first | (with_reducible assumption) | assumption); obtain ⟨ad223, e223, hx223_0⟩ := Kd.at_int HR0.out x7_2 p223 q223; obtain rfl : ad219 = ad223 := (by injection e223); replace hx223_0 := (HB.out.cell (World.block_lt_of_cell? w _ hx223_0)).trans hx223_0; replace p223 := eq_true p223; replace q223 := eq_true q223; have p233 : 0 ≤ (x7_2 : Int) := of_decide_eq_true (by first | (with_reducible assumption) | assumption); have q233 : x7_2 < (l0.length : Int) := of_decide_eq_true (by first | (with_reducible assumption) | assumption); obtain ⟨ad233, e233, hx233_0⟩ := Kd.at_int HR0.out x7_2 p233 q233; obtain rfl : ad219 = ad233 := (by injection e233); replace hx233_0 := (HB.out.cell (World.block_lt_of_cell? w _ hx233_0)).trans hx233_0; replace p233 := eq_true p233; replace q233 := eq_true q233; have p243 : 0 ≤ (x7_2 : Int) := of_decide_eq_true (by first | (with_reducible assumption) | assumption); have q243 : x7_2 < (l0.length : Int) := of_decide_eq_true (by first | (with_reducible assumption) | assumption); obtain ⟨ad243, e243, hx243_0⟩ := Kd.at_int HR0.out x7_2 p243 q243; obtain rfl : ad219 = ad243 := (by injection e243); replace hx243_0 := (HB.out.cell (World.block_lt_of_cell? w _ hx243_0)).trans hx243_0; replace p243 := eq_true p243; replace q243 := eq_true q243; obtain ⟨Ao90, co90, eo90⟩ := Kd.R_slice HO222.out; subst eo90; have q91 : (0 : Int) ≤ ((t220.length : Int) : Int) := of_decide_eq_true (by first | (with_reducible assumption) | assumption); obtain ⟨i091, hi091, _, hsz91, _⟩ := info_parts info5; have hroom91 : t220.length ≤ co90 := (Kd.R_reads' HO222.out).2.1; have hC91 : Kd.C (Kd.int .u8) _ Ao90 t220.length t220 := (Kd.R_reads' HO222.out).2.2; have hcut91 := cut_to (P := Try.prog) 23 5 .i64 Try.underlying23 hi091 Ao90 t220.length co90 0 (by omega) q91 hroom91; have hr91 := Kd.C_take (m := 0) hC91 (by omega); have hy91 : y253.length = (0 : Int).toNat := (by rw [Ny253.out, List.length_take]; omega); rw [← Ny253.out] at hr91; rw [← hy91] at hcut91; have HR256 := Aside0.mk hr91; have HC256 := Aside0.mk (show y253.length ≤ co90 from by omega); clear hr91 hC91 hroom91 hi091 hsz91; have KY91 := Aside0.mk hy91; clear hy91; have KL91 := Aside0.mk (show 0 ≤ t220.length from by omega); replace q91 := eq_true q91) | ((with_reducible refine gate_callee (f := 12) rfl ?_); refine goesL_ (some 97) rfl rfl Try.func12 (by kernel_rfl) rfl #[.slice Ao90 y253.length co90] rfl (by (try simp only [List.map_toArray, List.map_cons, List.map_nil]); first | done | rfl | (simp only [List.length_drop, List.length_take]; rfl)) ?_; (with_reducible refine (utf_Valid.calls kj9 _ _ y253 t257 t258 _ ?side1 ?side2 A78.out).mono ?_); (case side1 => repeat (first | exact (by repeat (first | (with_reducible exact HR256.out) | (with_reducible refine Kd.C_alloc ?_ _) | (with_reducible refine Kd.C_drewN ?_ _) | (with_reducible refine Kd.C_drew ?_) | exact HR256.out)) | (with_reducible refine Kd.C_alloc ?_ _) | (with_reducible refine Kd.C_drewN ?_ _) | (with_reducible refine Kd.C_drew ?_))); (case side2 => exact HC256.out); rintro e w' ⟨rfl, ⟨nd, rfl⟩⟩; refine ⟨_, rfl, ?_⟩))
                                    go_ret
                                    exact ⟨by first | rfl | (simp [errW_none, errW_some] <;> rfl) | (simp [*, errW_none, errW_some] <;> rfl), by repeat (first | (with_reducible first | exact HB.out | apply below_alloc | apply pw_below_drewN | apply below_drew1) | exact HB.out)⟩
                                · rw [if_neg c77] at H
                                  exact absurd H (by simp)
                      · rw [if_neg c17] at H
                        exact absurd H (by simp)
                    · rw [if_neg c16] at H
                      exact absurd H (by simp)
            · rw [if_neg c9] at H
              have c9b0 : decide (x7_2 < (l0.length : Int)) = false := decide_eq_false c9
              clear c9
              have H' := Aside0.mk H
              clear H
              go_wp2
              go_loopg [12, 13] k2 (fun kq v12 v13 w' => ∃ (x12_3 : Int) (x13_3 : Int), v12 = .int .i64 x12_3 ∧ v13 = .int .i64 x13_3 ∧ Aside0 (abridgerlaw1_UtfBack.l1 kq l0 x6_2 x12_3 x13_3 = some r) ∧ Aside0 (kq ≤ k2) ∧ Aside0 (Kd.R (Kd.int .u8) 5 w' w.heap.size (fun _ => True) u6 x6_2) ∧ Aside0 (Below w.heap.size w w'))
              case atStart => exact ⟨(0), (0), (by first | rfl | (simp; done) | (simp [*]; done)), (by first | rfl | (simp; done) | (simp [*]; done)), H', ⟨Nat.le_refl _⟩, ⟨by (with_reducible repeat (first | apply Kd.R_alloc | apply Kd.R_drewN | apply Kd.R_drew)); exact HO_6.out⟩, ⟨by repeat (first | (with_reducible first | exact HB.out | apply below_alloc | apply pw_below_drewN | apply below_drew1) | exact HB.out)⟩⟩
              case round =>
                clear H'
                try clear c1
                try clear c2
                try clear p2
                try clear q2
                try clear hx2
                try clear c3
                try clear q3
                try clear c4
                try clear q4
                try clear c5
                try clear q5
                try clear c6
                try clear p6
                try clear q6
                try clear c7
                try clear c7b0
                try clear c7b1
                try clear q7
                try clear c8
                try clear q8
                try clear c9
                try clear c9b0
                try clear q9
                try clear c11
                try clear c11b0
                try clear c12
                try clear c12b0
                try clear c13
                try clear c13b0
                try clear c14
                try clear c14b0
                try clear c15
                try clear c16
                try clear c16b0
                try clear c17
                try clear c17b0
                try clear c19
                try clear c19b0
                try clear c20
                try clear c20b0
                try clear c20b1
                try clear p21
                try clear q21
                try clear hx21
                try clear c22
                try clear c22b0
                try clear c22b1
                try clear p22
                try clear q22
                try clear hx22
                try clear c23
                try clear c23b0
                try clear c23b1
                try clear p23
                try clear q23
                try clear hx23
                try clear p24
                try clear q24
                try clear hx24
                try clear c25
                try clear c25b0
                try clear c25b1
                try clear c26
                try clear c26b0
                try clear c26b1
                try clear c26b2
                try clear q29
                try clear c30
                try clear q33
                try clear q37
                try clear c38
                try clear c38b0
                try clear c39
                try clear c39b0
                try clear c39b1
                try clear c41
                try clear c41b0
                try clear c41b1
                try clear c42
                try clear c42b0
                try clear c42b1
                try clear c44
                try clear c44b0
                try clear c44b1
                try clear c45
                try clear c45b0
                try clear c45b1
                try clear c45b2
                try clear q48
                try clear c49
                try clear q52
                try clear q56
                try clear c57
                try clear c57b0
                try clear c58
                try clear c58b0
                try clear c58b1
                try clear c60
                try clear c60b0
                try clear c60b1
                try clear c61
                try clear c61b0
                try clear c61b1
                try clear c63
                try clear c63b0
                try clear c63b1
                try clear c64
                try clear c64b0
                try clear c64b1
                try clear c64b2
                try clear p64
                try clear q67
                try clear c68
                try clear q71
                try clear q75
                try clear c76
                try clear c76b0
                try clear c76b1
                try clear c77
                try clear c77b0
                try clear c77b1
                try clear c79
                try clear c79b0
                try clear c79b1
                try clear c80
                try clear c81
                try clear q84
                try clear q88
                try clear q91
                try clear hx215_0
                try clear hx216_0
                try clear hx217_0
                try clear hx218_0
                try clear hx219_0
                try clear hx223_0
                try clear hx233_0
                try clear hx243_0
                try clear p2
                try clear p215
                try clear p216
                try clear p217
                try clear p218
                try clear p219
                try clear p223
                try clear p233
                try clear p243
                try clear q2
                try clear q215
                try clear q216
                try clear q217
                try clear q218
                try clear q219
                try clear q223
                try clear q233
                try clear q243
                try clear q29
                try clear q33
                try clear q37
                try clear q48
                try clear q52
                try clear q56
                try clear q67
                try clear q71
                try clear q75
                try clear q84
                try clear q88
                try clear q91
                obtain ⟨x12_3, x13_3, rfl, rfl, HA, HK3, HO_6, HB⟩ := hrel
                cases gk with
                | zero => exact absurd HA.out (by simp [abridgerlaw1_UtfBack.l1])
                | succ k3 =>
                  have H := HA.out
                  clear HA
                  simp only [abridgerlaw1_UtfBack.l1] at H
                  by_cases c92 : x13_3 < (l0.length : Int)
                  · rw [if_pos c92] at H
                    have c92b0 : decide (x13_3 < (l0.length : Int)) = true := decide_eq_true c92
                    clear c92
                    replace H := Option.bind_eq_some_iff.mp H
                    obtain ⟨⟨t262, t263, t264⟩, A930, H⟩ := H
                    replace H : (if t264 = true then (if 0 ≤ x13_3 then (if t262 = (rd l0 x13_3) then (if t263 < 1 then (some false) else (abridgerlaw1_UtfBack.l1 k3 l0 x6_2 (wrap64 (x12_3 + t263)) (wrap64 (x13_3 + 1)))) else (some false)) else (none)) else (some false)) = some r := H
                    have A93 := Aside0.mk A930
                    clear A930
                    by_cases c94 : t264 = true
                    · subst c94
                      have H1 : (if 0 ≤ x13_3 then (if t262 = (rd l0 x13_3) then (if t263 < 1 then (some false) else (abridgerlaw1_UtfBack.l1 k3 l0 x6_2 (wrap64 (x12_3 + t263)) (wrap64 (x13_3 + 1)))) else (some false)) else (none)) = some r := by rw [if_pos rfl] at H; exact H
                      clear H
                      have H := H1
                      clear H1
                      by_cases c95 : 0 ≤ x13_3
                      · rw [if_pos c95] at H
                        have c95b0 : decide (0 ≤ x13_3) = true := decide_eq_true c95
                        clear c95
                        by_cases c96 : t262 = (rd l0 x13_3)
                        · rw [if_pos c96] at H
                          have c96b0 : (t262 == (rd l0 x13_3)) = true := beq_iff_eq.mpr c96
                          have c96b1 : (t262 != (rd l0 x13_3)) = false := bne_eq_false_iff_eq.mpr c96
                          clear c96
                          by_cases c97 : t263 < 1
                          · rw [if_pos c97] at H
                            have c97b0 : decide (t263 < 1) = true := decide_eq_true c97
                            clear c97
                            obtain rfl := Option.some.inj H
                            obtain ⟨Ao98, co98, eo98⟩ := Kd.R_slice HO_6.out
                            subst eo98
                            go_wp2_with (first | ((with_reducible refine gate_callee (f := 10) rfl ?_); refine goesL_ (some 124) rfl rfl Try.func10 (by kernel_rfl) rfl #[.slice Ao98 x6_2.length co98, .int .i64 x12_3] rfl (by (try simp only [List.map_toArray, List.map_cons, List.map_nil]); first | done | rfl | (simp only [List.length_drop, List.length_take]; rfl)) ?_; (with_reducible refine (utf_Next.calls k3 _ _ x6_2 x12_3 t262 t263 true _ ?side1 ?side2 A93.out).mono ?_); (case side1 => repeat (first | exact (Kd.R_reads' HO_6.out).2.2 | (with_reducible refine Kd.C_alloc ?_ _) | (with_reducible refine Kd.C_drewN ?_ _) | (with_reducible refine Kd.C_drew ?_))); (case side2 => exact (Kd.R_reads' HO_6.out).2.1); rintro e w' ⟨rfl, ⟨nd, rfl⟩⟩; refine ⟨_, rfl, ?_⟩; have p265 : 0 ≤ (x13_3 : Int) := of_decide_eq_true (by first | (with_reducible assumption) | assumption); have q265 : x13_3 < (l0.length : Int) := of_decide_eq_true (by first | (with_reducible assumption) | assumption); obtain ⟨ad265, e265, hx265_0⟩ := Kd.at_int HR0.out x13_3 p265 q265; cases e265; replace hx265_0 := (HB.out.cell (World.block_lt_of_cell? w _ hx265_0)).trans hx265_0; replace p265 := eq_true p265; replace q265 := eq_true q265))
                            go_ret
                            exact ⟨by first | rfl | (simp [errW_none, errW_some] <;> rfl) | (simp [*, errW_none, errW_some] <;> rfl), by repeat (first | (with_reducible first | exact HB.out | apply below_alloc | apply pw_below_drewN | apply below_drew1) | exact HB.out)⟩
                          · rw [if_neg c97] at H
                            have c97b0 : decide (t263 < 1) = false := decide_eq_false c97
                            clear c97
                            have H' := Aside0.mk H
                            clear H
                            obtain ⟨Ao99, co99, eo99⟩ := Kd.R_slice HO_6.out
                            subst eo99
                            go_wp2_with (first | ((with_reducible refine gate_callee (f := 10) rfl ?_); refine goesL_ (some 124) rfl rfl Try.func10 (by kernel_rfl) rfl #[.slice Ao99 x6_2.length co99, .int .i64 x12_3] rfl (by (try simp only [List.map_toArray, List.map_cons, List.map_nil]); first | done | rfl | (simp only [List.length_drop, List.length_take]; rfl)) ?_; (with_reducible refine (utf_Next.calls k3 _ _ x6_2 x12_3 t262 t263 true _ ?side1 ?side2 A93.out).mono ?_); (case side1 => repeat (first | exact (Kd.R_reads' HO_6.out).2.2 | (with_reducible refine Kd.C_alloc ?_ _) | (with_reducible refine Kd.C_drewN ?_ _) | (with_reducible refine Kd.C_drew ?_))); (case side2 => exact (Kd.R_reads' HO_6.out).2.1); rintro e w' ⟨rfl, ⟨nd, rfl⟩⟩; refine ⟨_, rfl, ?_⟩; have p265 : 0 ≤ (x13_3 : Int) := of_decide_eq_true (by first | (with_reducible assumption) | assumption); have q265 : x13_3 < (l0.length : Int) := of_decide_eq_true (by first | (with_reducible assumption) | assumption); obtain ⟨ad265, e265, hx265_0⟩ := Kd.at_int HR0.out x13_3 p265 q265; cases e265; replace hx265_0 := (HB.out.cell (World.block_lt_of_cell? w _ hx265_0)).trans hx265_0; replace p265 := eq_true p265; replace q265 := eq_true q265))
                            go_roundg k3
                            case measure => have := HJ3.out; have := HK2.out; have := HK3.out; omega
                            case rel => exact ⟨(wrap64 (x12_3 + t263)), (wrap64 (x13_3 + 1)), (by first | rfl | (simp; done) | (simp [*]; done)), (by first | rfl | (simp; done) | (simp [*]; done)), H', ⟨by have := HJ3.out; have := HK2.out; have := HK3.out; omega⟩, ⟨by (with_reducible repeat (first | apply Kd.R_alloc | apply Kd.R_drewN | apply Kd.R_drew)); exact HO_6.out⟩, ⟨by repeat (first | (with_reducible first | exact HB.out | apply below_alloc | apply pw_below_drewN | apply below_drew1) | exact HB.out)⟩⟩
                        · rw [if_neg c96] at H
                          have c96b0 : (t262 == (rd l0 x13_3)) = false := beq_eq_false_iff_ne.mpr c96
                          have c96b1 : (t262 != (rd l0 x13_3)) = true := bne_iff_ne.mpr c96
                          obtain rfl := Option.some.inj H
                          obtain ⟨Ao100, co100, eo100⟩ := Kd.R_slice HO_6.out
                          subst eo100
                          go_wp2_with (first | ((with_reducible refine gate_callee (f := 10) rfl ?_); refine goesL_ (some 124) rfl rfl Try.func10 (by kernel_rfl) rfl #[.slice Ao100 x6_2.length co100, .int .i64 x12_3] rfl (by (try simp only [List.map_toArray, List.map_cons, List.map_nil]); first | done | rfl | (simp only [List.length_drop, List.length_take]; rfl)) ?_; (with_reducible refine (utf_Next.calls k3 _ _ x6_2 x12_3 t262 t263 true _ ?side1 ?side2 A93.out).mono ?_); (case side1 => repeat (first | exact (Kd.R_reads' HO_6.out).2.2 | (with_reducible refine Kd.C_alloc ?_ _) | (with_reducible refine Kd.C_drewN ?_ _) | (with_reducible refine Kd.C_drew ?_))); (case side2 => exact (Kd.R_reads' HO_6.out).2.1); rintro e w' ⟨rfl, ⟨nd, rfl⟩⟩; refine ⟨_, rfl, ?_⟩; have p265 : 0 ≤ (x13_3 : Int) := of_decide_eq_true (by first | (with_reducible assumption) | assumption); have q265 : x13_3 < (l0.length : Int) := of_decide_eq_true (by first | (with_reducible assumption) | assumption); obtain ⟨ad265, e265, hx265_0⟩ := Kd.at_int HR0.out x13_3 p265 q265; cases e265; replace hx265_0 := (HB.out.cell (World.block_lt_of_cell? w _ hx265_0)).trans hx265_0; replace p265 := eq_true p265; replace q265 := eq_true q265))
                          go_ret
                          exact ⟨by first | rfl | (simp [errW_none, errW_some] <;> rfl) | (simp [*, errW_none, errW_some] <;> rfl), by repeat (first | (with_reducible first | exact HB.out | apply below_alloc | apply pw_below_drewN | apply below_drew1) | exact HB.out)⟩
                      · rw [if_neg c95] at H
                        exact absurd H (by simp)
                    · replace c94 := Bool.eq_false_iff.mpr c94
                      subst c94
                      have H1 : (some false) = some r := by rw [if_neg (show ¬ (false = true) by decide)] at H; exact H
                      clear H
                      have H := H1
                      clear H1
                      obtain rfl := Option.some.inj H
                      obtain ⟨Ao101, co101, eo101⟩ := Kd.R_slice HO_6.out
                      subst eo101
                      go_wp2_with (first | ((with_reducible refine gate_callee (f := 10) rfl ?_); refine goesL_ (some 124) rfl rfl Try.func10 (by kernel_rfl) rfl #[.slice Ao101 x6_2.length co101, .int .i64 x12_3] rfl (by (try simp only [List.map_toArray, List.map_cons, List.map_nil]); first | done | rfl | (simp only [List.length_drop, List.length_take]; rfl)) ?_; (with_reducible refine (utf_Next.calls k3 _ _ x6_2 x12_3 t262 t263 false _ ?side1 ?side2 A93.out).mono ?_); (case side1 => repeat (first | exact (Kd.R_reads' HO_6.out).2.2 | (with_reducible refine Kd.C_alloc ?_ _) | (with_reducible refine Kd.C_drewN ?_ _) | (with_reducible refine Kd.C_drew ?_))); (case side2 => exact (Kd.R_reads' HO_6.out).2.1); rintro e w' ⟨rfl, ⟨nd, rfl⟩⟩; refine ⟨_, rfl, ?_⟩))
                      go_ret
                      exact ⟨by first | rfl | (simp [errW_none, errW_some] <;> rfl) | (simp [*, errW_none, errW_some] <;> rfl), by repeat (first | (with_reducible first | exact HB.out | apply below_alloc | apply pw_below_drewN | apply below_drew1) | exact HB.out)⟩
                  · rw [if_neg c92] at H
                    have c92b0 : decide (x13_3 < (l0.length : Int)) = false := decide_eq_false c92
                    clear c92
                    replace H := Option.bind_eq_some_iff.mp H
                    obtain ⟨⟨t266, t267⟩, A1020, H⟩ := H
                    replace H : (if x12_3 = (x6_2.length : Int) then (if t267 = true then (some (t266 == x12_3)) else (some false)) else (some false)) = some r := H
                    have A102 := Aside0.mk A1020
                    clear A1020
                    by_cases c103 : x12_3 = (x6_2.length : Int)
                    · rw [if_pos c103] at H
                      have c103b0 : (x12_3 == (x6_2.length : Int)) = true := beq_iff_eq.mpr c103
                      have c103b1 : (x12_3 != (x6_2.length : Int)) = false := bne_eq_false_iff_eq.mpr c103
                      clear c103
                      by_cases c104 : t267 = true
                      · subst c104
                        have H1 : (some (t266 == x12_3)) = some r := by rw [if_pos rfl] at H; exact H
                        clear H
                        have H := H1
                        clear H1
                        obtain rfl := Option.some.inj H
                        obtain ⟨Ao105, co105, eo105⟩ := Kd.R_slice HO_6.out
                        subst eo105
                        go_wp2_with (first | ((with_reducible refine gate_callee (f := 12) rfl ?_); refine goesL_ (some 147) rfl rfl Try.func12 (by kernel_rfl) rfl #[.slice Ao105 x6_2.length co105] rfl (by (try simp only [List.map_toArray, List.map_cons, List.map_nil]); first | done | rfl | (simp only [List.length_drop, List.length_take]; rfl)) ?_; (with_reducible refine (utf_Valid.calls k3 _ _ x6_2 t266 true _ ?side1 ?side2 A102.out).mono ?_); (case side1 => repeat (first | exact (Kd.R_reads' HO_6.out).2.2 | (with_reducible refine Kd.C_alloc ?_ _) | (with_reducible refine Kd.C_drewN ?_ _) | (with_reducible refine Kd.C_drew ?_))); (case side2 => exact (Kd.R_reads' HO_6.out).2.1); rintro e w' ⟨rfl, ⟨nd, rfl⟩⟩; refine ⟨_, rfl, ?_⟩))
                        go_ret
                        exact ⟨by first | rfl | (simp [errW_none, errW_some] <;> rfl) | (simp [*, errW_none, errW_some] <;> rfl), by repeat (first | (with_reducible first | exact HB.out | apply below_alloc | apply pw_below_drewN | apply below_drew1) | exact HB.out)⟩
                      · replace c104 := Bool.eq_false_iff.mpr c104
                        subst c104
                        have H1 : (some false) = some r := by rw [if_neg (show ¬ (false = true) by decide)] at H; exact H
                        clear H
                        have H := H1
                        clear H1
                        obtain rfl := Option.some.inj H
                        obtain ⟨Ao106, co106, eo106⟩ := Kd.R_slice HO_6.out
                        subst eo106
                        go_wp2_with (first | ((with_reducible refine gate_callee (f := 12) rfl ?_); refine goesL_ (some 147) rfl rfl Try.func12 (by kernel_rfl) rfl #[.slice Ao106 x6_2.length co106] rfl (by (try simp only [List.map_toArray, List.map_cons, List.map_nil]); first | done | rfl | (simp only [List.length_drop, List.length_take]; rfl)) ?_; (with_reducible refine (utf_Valid.calls k3 _ _ x6_2 t266 false _ ?side1 ?side2 A102.out).mono ?_); (case side1 => repeat (first | exact (Kd.R_reads' HO_6.out).2.2 | (with_reducible refine Kd.C_alloc ?_ _) | (with_reducible refine Kd.C_drewN ?_ _) | (with_reducible refine Kd.C_drew ?_))); (case side2 => exact (Kd.R_reads' HO_6.out).2.1); rintro e w' ⟨rfl, ⟨nd, rfl⟩⟩; refine ⟨_, rfl, ?_⟩))
                        go_ret
                        exact ⟨by first | rfl | (simp [errW_none, errW_some] <;> rfl) | (simp [*, errW_none, errW_some] <;> rfl), by repeat (first | (with_reducible first | exact HB.out | apply below_alloc | apply pw_below_drewN | apply below_drew1) | exact HB.out)⟩
                    · rw [if_neg c103] at H
                      have c103b0 : (x12_3 == (x6_2.length : Int)) = false := beq_eq_false_iff_ne.mpr c103
                      have c103b1 : (x12_3 != (x6_2.length : Int)) = true := bne_iff_ne.mpr c103
                      obtain rfl := Option.some.inj H
                      obtain ⟨Ao107, co107, eo107⟩ := Kd.R_slice HO_6.out
                      subst eo107
                      go_wp2_with (first | ((with_reducible refine gate_callee (f := 12) rfl ?_); refine goesL_ (some 147) rfl rfl Try.func12 (by kernel_rfl) rfl #[.slice Ao107 x6_2.length co107] rfl (by (try simp only [List.map_toArray, List.map_cons, List.map_nil]); first | done | rfl | (simp only [List.length_drop, List.length_take]; rfl)) ?_; (with_reducible refine (utf_Valid.calls k3 _ _ x6_2 t266 t267 _ ?side1 ?side2 A102.out).mono ?_); (case side1 => repeat (first | exact (Kd.R_reads' HO_6.out).2.2 | (with_reducible refine Kd.C_alloc ?_ _) | (with_reducible refine Kd.C_drewN ?_ _) | (with_reducible refine Kd.C_drew ?_))); (case side2 => exact (Kd.R_reads' HO_6.out).2.1); rintro e w' ⟨rfl, ⟨nd, rfl⟩⟩; refine ⟨_, rfl, ?_⟩))
                      go_ret
                      exact ⟨by first | rfl | (simp [errW_none, errW_some] <;> rfl) | (simp [*, errW_none, errW_some] <;> rfl), by repeat (first | (with_reducible first | exact HB.out | apply below_alloc | apply pw_below_drewN | apply below_drew1) | exact HB.out)⟩

/-- THE ONE PURE STATEMENT of abridgerlaw1_UtfBack: yours. -/
def abridgerlaw1_UtfBack.Pure : Prop := ∀ (l0 : List Int) (a1 : Int), l0.length ≤ maxLen → l0.length * 8 ≤ 140737488351232 → (∀ x ∈ l0, (Lit.int .i64 x).wf = true) → (Lit.int .i64 a1).wf = true → ∃ k, abridgerlaw1_UtfBack.f k l0 a1 = some true
theorem abridgerlaw1_UtfBack.walk (P : abridgerlaw1_UtfBack.Pure) (a0 : Option Addr) (len0 cap0 : Nat) (z0 : List Int) (a1 : Int) (w : World) (w0 : (a0 = none ∧ len0 = 0 ∧ cap0 = 0 ∧ z0 = []) ∨ ∃ x, a0 = some x ∧ len0 ≤ cap0 ∧ cap0 ≤ maxLen ∧ z0.length = cap0 ∧ (∀ i, i < z0.length → w.cell? (x.add i) = some (.int .i64 (z0.getD i 0))) ∧ ∀ n ∈ z0, (Lit.int .i64 n).wf = true) (y0 : len0 * 8 ≤ 140737488351232) (w1 : (Lit.int .i64 a1).wf = true) :
    Calls Try.prog 5 #[.slice a0 len0 cap0, .int .i64 a1] w fun e w' => e = .returned (.bool true) ∧ Below w.heap.size w w' := by
  obtain ⟨l0, rfl, hr0, hm0, hw0, hc0⟩ := ReadsInt.ofRowC w0
  obtain ⟨k, h⟩ := P l0 a1 hm0 y0 hw0 w1
  refine (abridgerlaw1_UtfBack.calls k _ _ l0 a1 true w (Kd.C_of_reads (d := (0 : Int)) (h1 := fun _ => rfl) hr0) hc0 h).mono ?_
  rintro e w' ⟨rfl, hd⟩
  exact ⟨rfl, hd⟩

end Go.Proofs.Ytjfimecfhmchhaa.Q
