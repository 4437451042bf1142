-- Written by a program of this session (wip/tools/print2.sh), out of the translation, for this claim. Lean checks it.
import Derived.Test.YtcioifijkonplaaQx0
import Derived.Test.YtcioifijkonplaaQx3
import Derived.Test.YtcioifijkonplaaQx5
namespace Go.Proofs.Ytcioifijkonplaa.Q
open Go.RowKit Go.Proofs.YtcioifijkonplaaW.PrintWords Go.Proofs.YtcioifijkonplaaW.PrintLast Go.Proofs.YtcioifijkonplaaW.PrintMore
attribute [local go_sem] max2_int min2_int max_two min_two max_three min_three max_four min_four   -- for this text's walks alone
set_option linter.unusedVariables false
set_option linter.unusedSimpArgs false

/-! ### jstring_spell: function 20 -/
def jstring_spell.j0 : Nat → Int → Bool → Option (ByteArray)
  | 0, _, _ => none
  | k + 1, x0, x24 => if x24 = true then ((jstring_digits.f k x0).bind fun t171 => (if 2 + t171.size ≤ 9223372036854775807 then (some ((⟨#[92, 117]⟩ : ByteArray) ++ t171)) else (none))) else ((utf_Text.f k (([x0] : List Int))).bind fun t175 => (some t175))
def jstring_spell.f (k : Nat) (a0 : Int) : Option (ByteArray) := (strings_IndexByte.f (⟨#[34, 92, 8, 12, 10, 13, 9]⟩ : ByteArray) ((mn a0 127) % 256)).bind fun t170 => (if t170 ≥ 0 then (if 0 ≤ t170 then (if t170 ≤ (wrap64 (t170 + 1)) then (if (wrap64 (t170 + 1)) ≤ 7 then (if 1 + ((⟨#[34, 92, 98, 102, 110, 114, 116]⟩ : ByteArray).extract (t170 : Int).toNat ((wrap64 (t170 + 1)) : Int).toNat).size ≤ 9223372036854775807 then (some ((⟨#[92]⟩ : ByteArray) ++ ((⟨#[34, 92, 98, 102, 110, 114, 116]⟩ : ByteArray).extract (t170 : Int).toNat ((wrap64 (t170 + 1)) : Int).toNat))) else (none)) else (none)) else (none)) else (none)) else (if a0 < 32 then (jstring_spell.j0 k a0 true) else (if a0 ≥ 55296 then (jstring_spell.j0 k a0 (decide (a0 < 57344))) else (jstring_spell.j0 k a0 false))))
theorem jstring_spell.mono_l : ∀ k, (∀ y0 y1, LeO (jstring_spell.j0 k y0 y1) (jstring_spell.j0 (k + 1) y0 y1))
  | 0 => fun _ _ r h => by simp [jstring_spell.j0] at h
  | k + 1 => by
    have ih0 := jstring_spell.mono_l k
    · intro y0 y1
      unfold jstring_spell.j0
      repeat' first
      | (with_reducible exact ih0 _ _)
      | (with_reducible exact jstring_digits.mono _ _)
      | (with_reducible exact utf_Text.mono _ _)
      | (with_reducible exact LeO.refl _)
      | (with_reducible exact LeO.none _)
      | (with_reducible refine LeO.ite ?_ ?_)
      | (with_reducible refine LeO.bind ?_ (fun _ => ?_))
      | exact ih0 _ _
      | exact jstring_digits.mono _ _
      | exact utf_Text.mono _ _
      | exact LeO.none _
      | refine LeO.ite ?_ ?_
      | refine LeO.bind ?_ (fun _ => ?_)
theorem jstring_spell.mono : ∀ a0 k, LeO (jstring_spell.f k a0) (jstring_spell.f (k + 1) a0) := by
  intro a0 k
  have ih0 := jstring_spell.mono_l k
  unfold jstring_spell.f
  repeat' first
      | (with_reducible exact ih0 _ _)
      | (with_reducible exact jstring_digits.mono _ _)
      | (with_reducible exact utf_Text.mono _ _)
      | (with_reducible exact LeO.refl _)
      | (with_reducible exact LeO.none _)
      | (with_reducible refine LeO.ite ?_ ?_)
      | (with_reducible refine LeO.bind ?_ (fun _ => ?_))
      | exact ih0 _ _
      | exact jstring_digits.mono _ _
      | exact utf_Text.mono _ _
      | exact LeO.none _
      | refine LeO.ite ?_ ?_
      | refine LeO.bind ?_ (fun _ => ?_)
set_option maxHeartbeats 8000000 in
set_option maxRecDepth 100000 in
theorem jstring_spell.calls (k : Nat) (a0 : Int) (r : ByteArray) (w : World) (h : jstring_spell.f k a0 = some r) :
    Calls Try.prog 20 #[.int .i64 a0] w fun e w' => e = .returned (.string r) ∧ Below w.heap.size w w' := by
  have HB := Aside0.mk (Below.refl w.heap.size w)
  have H : ((strings_IndexByte.f (⟨#[34, 92, 8, 12, 10, 13, 9]⟩ : ByteArray) ((mn a0 127) % 256)).bind fun t170 => (if t170 ≥ 0 then (if 0 ≤ t170 then (if t170 ≤ (wrap64 (t170 + 1)) then (if (wrap64 (t170 + 1)) ≤ 7 then (if 1 + ((⟨#[34, 92, 98, 102, 110, 114, 116]⟩ : ByteArray).extract (t170 : Int).toNat ((wrap64 (t170 + 1)) : Int).toNat).size ≤ 9223372036854775807 then (some ((⟨#[92]⟩ : ByteArray) ++ ((⟨#[34, 92, 98, 102, 110, 114, 116]⟩ : ByteArray).extract (t170 : Int).toNat ((wrap64 (t170 + 1)) : Int).toNat))) else (none)) else (none)) else (none)) else (none)) else (if a0 < 32 then (jstring_spell.j0 k a0 true) else (if a0 ≥ 55296 then (jstring_spell.j0 k a0 (decide (a0 < 57344))) else (jstring_spell.j0 k a0 false))))) = some r := h
  clear h
  obtain ⟨ji2, hji2⟩ : ∃ j_ : Int, (mn a0 127) = j_ := ⟨_, rfl⟩
  replace H : ((strings_IndexByte.f (⟨#[34, 92, 8, 12, 10, 13, 9]⟩ : ByteArray) ((ji2) % 256)).bind fun t170 => (if t170 ≥ 0 then (if 0 ≤ t170 then (if t170 ≤ (wrap64 (t170 + 1)) then (if (wrap64 (t170 + 1)) ≤ 7 then (if 1 + ((⟨#[34, 92, 98, 102, 110, 114, 116]⟩ : ByteArray).extract (t170 : Int).toNat ((wrap64 (t170 + 1)) : Int).toNat).size ≤ 9223372036854775807 then (some ((⟨#[92]⟩ : ByteArray) ++ ((⟨#[34, 92, 98, 102, 110, 114, 116]⟩ : ByteArray).extract (t170 : Int).toNat ((wrap64 (t170 + 1)) : Int).toNat))) else (none)) else (none)) else (none)) else (none)) else (if a0 < 32 then (jstring_spell.j0 k a0 true) else (if a0 ≥ 55296 then (jstring_spell.j0 k a0 (decide (a0 < 57344))) else (jstring_spell.j0 k a0 false))))) = some r := by first | (rw [hji2] at H; exact H) | (simp only [hji2] at H ⊢; exact H)
  (try (have hji2h : ji2 ≤ 127 := by (rw [← hji2]; unfold mn; (repeat' split) <;> omega)))
  (try (have hji2g : ji2 ≤ 64 := by omega))
  have hji2_ : (if 127 < a0 then 127 else a0) = ji2 := hji2
  replace H := Option.bind_eq_some_iff.mp H
  obtain ⟨t170, A30, H⟩ := H
  replace H : (if t170 ≥ 0 then (if 0 ≤ t170 then (if t170 ≤ (wrap64 (t170 + 1)) then (if (wrap64 (t170 + 1)) ≤ 7 then (if 1 + ((⟨#[34, 92, 98, 102, 110, 114, 116]⟩ : ByteArray).extract (t170 : Int).toNat ((wrap64 (t170 + 1)) : Int).toNat).size ≤ 9223372036854775807 then (some ((⟨#[92]⟩ : ByteArray) ++ ((⟨#[34, 92, 98, 102, 110, 114, 116]⟩ : ByteArray).extract (t170 : Int).toNat ((wrap64 (t170 + 1)) : Int).toNat))) else (none)) else (none)) else (none)) else (none)) else (if a0 < 32 then (jstring_spell.j0 k a0 true) else (if a0 ≥ 55296 then (jstring_spell.j0 k a0 (decide (a0 < 57344))) else (jstring_spell.j0 k a0 false)))) = some r := H
  have A3 := Aside0.mk A30
  clear A30
  by_cases c4 : t170 ≥ 0
  · rw [if_pos c4] at H
    have c4b0 : decide (0 ≤ t170) = true := decide_eq_true c4
    clear c4
    by_cases c5 : 0 ≤ t170
    · rw [if_pos c5] at H
      have c5b0 := eq_true c5
      have c5b1 : decide (0 ≤ t170) = true := decide_eq_true c5
      clear c5
      by_cases c6 : t170 ≤ (wrap64 (t170 + 1))
      · rw [if_pos c6] at H
        have c6b0 := eq_true c6
        have c6b1 : decide (t170 ≤ (wrap64 (t170 + 1))) = true := decide_eq_true c6
        by_cases c7 : (wrap64 (t170 + 1)) ≤ 7
        · rw [if_pos c7] at H
          have c7b0 := eq_true c7
          have c7b1 : decide ((wrap64 (t170 + 1)) ≤ 7) = true := decide_eq_true c7
          by_cases c8 : 1 + ((⟨#[34, 92, 98, 102, 110, 114, 116]⟩ : ByteArray).extract (t170 : Int).toNat ((wrap64 (t170 + 1)) : Int).toNat).size ≤ 9223372036854775807
          · rw [if_pos c8] at H
            have c8b0 := eq_true c8
            have c8b1 : decide (1 + ((⟨#[34, 92, 98, 102, 110, 114, 116]⟩ : ByteArray).extract (t170 : Int).toNat ((wrap64 (t170 + 1)) : Int).toNat).size ≤ 9223372036854775807) = true := decide_eq_true c8
            try have c8b2 : (9223372036854775807 < 1 + ((⟨#[34, 92, 98, 102, 110, 114, 116]⟩ : ByteArray).extract (t170 : Int).toNat ((wrap64 (t170 + 1)) : Int).toNat).size) = False := eq_false (Nat.not_lt.2 c8)
            obtain rfl := Option.some.inj H
            go_enter Try.func20, Try.ntmps20
            go_wp2_with (first | ((with_reducible refine gate_callee (f := 29) rfl ?_); refine goesL_ (some 7) rfl rfl Try.func29 (by kernel_rfl) rfl #[.string (⟨#[34, 92, 8, 12, 10, 13, 9]⟩ : ByteArray), .int .u8 ((ji2) % 256)] rfl (by (try simp only [List.map_toArray, List.map_cons, List.map_nil]); first | done | (simp only [hji2]; rfl) | rfl | (simp only [List.length_drop, List.length_take]; rfl)) ?_; (with_reducible refine (strings_IndexByte.calls (⟨#[34, 92, 8, 12, 10, 13, 9]⟩ : ByteArray) ((ji2) % 256) t170 _ A3.out).mono ?_); rintro e w' ⟨rfl, ⟨nd, rfl⟩⟩; refine ⟨_, rfl, ?_⟩))
            go_ret
            exact ⟨by first | rfl | (simp [errW_none, errW_some] <;> rfl) | (simp only [← hji2]; first | rfl | (simp [errW_none, errW_some] <;> rfl)) | (simp [*, errW_none, errW_some] <;> rfl), by repeat (first | (with_reducible first | exact HB.out | apply below_alloc | apply pw_below_drewN | apply below_drew1) | exact HB.out)⟩
          · rw [if_neg c8] at H
            exact absurd H (by simp)
        · rw [if_neg c7] at H
          exact absurd H (by simp)
      · rw [if_neg c6] at H
        exact absurd H (by simp)
    · rw [if_neg c5] at H
      exact absurd H (by simp)
  · rw [if_neg c4] at H
    have c4b0 : decide (0 ≤ t170) = false := decide_eq_false c4
    clear c4
    have HC9 := Aside0.mk H
    clear H
    go_enter Try.func20, Try.ntmps20
    go_upto_region 4 with (first | ((with_reducible refine gate_callee (f := 29) rfl ?_); refine goesL_ (some 7) rfl rfl Try.func29 (by kernel_rfl) rfl #[.string (⟨#[34, 92, 8, 12, 10, 13, 9]⟩ : ByteArray), .int .u8 ((ji2) % 256)] rfl (by (try simp only [List.map_toArray, List.map_cons, List.map_nil]); first | done | (simp only [hji2]; rfl) | rfl | (simp only [List.length_drop, List.length_take]; rfl)) ?_; (with_reducible refine (strings_IndexByte.calls (⟨#[34, 92, 8, 12, 10, 13, 9]⟩ : ByteArray) ((ji2) % 256) t170 _ A3.out).mono ?_); rintro e w' ⟨rfl, ⟨nd, rfl⟩⟩; refine ⟨_, rfl, ?_⟩))
    (try simp only [Act.put, List.setIfInBounds_toArray, List.set_cons_zero, List.set_cons_succ])
    go_cut [24] (fun v24 wc => ∃ (kq : Nat) (x24_8 : Bool), v24 = .bool x24_8 ∧ Aside0 (jstring_spell.j0 kq a0 x24_8 = some r) ∧ Aside0 (kq ≤ k) ∧ Aside0 (Below w.heap.size w wc))
    case first =>
      have H := HC9.out
      clear HC9
      by_cases c10 : a0 < 32
      · rw [if_pos c10] at H
        have c10b0 : decide (a0 < 32) = true := decide_eq_true c10
        clear c10
        (first | rw [c10b0] | (simp only [i64_w, i32_w]; rw [c10b0]) | skip)
        have H' := Aside0.mk H
        clear H
        go_wp2
        go_meet
        case rel => exact ⟨_, (true), (by first | rfl | (simp; done) | (simp [*]; done)), H', ⟨by first | omega | exact Nat.le_refl _⟩, ⟨by repeat (first | (with_reducible first | exact HB.out | apply below_alloc | apply pw_below_drewN | apply below_drew1) | exact HB.out)⟩⟩
      · rw [if_neg c10] at H
        have c10b0 : decide (a0 < 32) = false := decide_eq_false c10
        clear c10
        (first | rw [c10b0] | (simp only [i64_w, i32_w]; rw [c10b0]) | skip)
        by_cases c11 : a0 ≥ 55296
        · rw [if_pos c11] at H
          have c11b0 : decide (55296 ≤ a0) = true := decide_eq_true c11
          clear c11
          have H' := Aside0.mk H
          clear H
          go_wp2
          go_meet
          case rel => exact ⟨_, (decide (a0 < 57344)), (by first | rfl | (simp; done) | (simp [*]; done)), H', ⟨by first | omega | exact Nat.le_refl _⟩, ⟨by repeat (first | (with_reducible first | exact HB.out | apply below_alloc | apply pw_below_drewN | apply below_drew1) | exact HB.out)⟩⟩
        · rw [if_neg c11] at H
          have c11b0 : decide (55296 ≤ a0) = false := decide_eq_false c11
          clear c11
          have H' := Aside0.mk H
          clear H
          go_wp2
          go_meet
          case rel => exact ⟨_, (false), (by first | rfl | (simp; done) | (simp [*]; done)), H', ⟨by first | omega | exact Nat.le_refl _⟩, ⟨by repeat (first | (with_reducible first | exact HB.out | apply below_alloc | apply pw_below_drewN | apply below_drew1) | exact HB.out)⟩⟩
    case rest =>
      clear HC9
      try clear c1
      try clear c2
      try clear p2
      try clear c4
      try clear c4b0
      try clear c5
      try clear c5b0
      try clear c5b1
      try clear c6
      try clear c6b0
      try clear c6b1
      try clear p6
      try clear c7
      try clear c7b0
      try clear c7b1
      try clear c8
      try clear c8b0
      try clear c8b1
      try clear c8b2
      try clear c10
      try clear c10b0
      try clear c11
      try clear c11b0
      obtain ⟨kq, x24_8, rfl, HA, HJ8, HB⟩ := hcut
      cases kq with
      | zero => exact absurd HA.out (by simp [jstring_spell.j0])
      | succ kj8 =>
        have H := HA.out
        clear HA
        simp only [jstring_spell.j0] at H
        by_cases c12 : x24_8 = true
        · subst c12
          have H1 : ((jstring_digits.f kj8 a0).bind fun t171 => (if 2 + t171.size ≤ 9223372036854775807 then (some ((⟨#[92, 117]⟩ : ByteArray) ++ t171)) else (none))) = some r := by rw [if_pos rfl] at H; exact H
          clear H
          have H := H1
          clear H1
          replace H := Option.bind_eq_some_iff.mp H
          obtain ⟨t171, A130, H⟩ := H
          replace H : (if 2 + t171.size ≤ 9223372036854775807 then (some ((⟨#[92, 117]⟩ : ByteArray) ++ t171)) else (none)) = some r := H
          have A13 := Aside0.mk A130
          clear A130
          by_cases c14 : 2 + t171.size ≤ 9223372036854775807
          · rw [if_pos c14] at H
            have c14b0 := eq_true c14
            have c14b1 : decide (2 + t171.size ≤ 9223372036854775807) = true := decide_eq_true c14
            try have c14b2 : (9223372036854775807 < 2 + t171.size) = False := eq_false (Nat.not_lt.2 c14)
            obtain rfl := Option.some.inj H
            go_wp2_with (first | ((with_reducible refine gate_callee (f := 30) rfl ?_); refine goesL_ (some 26) rfl rfl Try.func30 (by kernel_rfl) rfl #[.int .i64 a0] rfl (by (try simp only [List.map_toArray, List.map_cons, List.map_nil]); first | done | rfl | (simp only [List.length_drop, List.length_take]; rfl)) ?_; (with_reducible refine (jstring_digits.calls kj8 a0 t171 _ A13.out).mono ?_); rintro e w' ⟨rfl, ⟨nd, rfl⟩⟩; refine ⟨_, rfl, ?_⟩))
            go_ret
            exact ⟨by first | rfl | (simp [errW_none, errW_some] <;> rfl) | (simp only [← hji2]; first | rfl | (simp [errW_none, errW_some] <;> rfl)) | (simp [*, errW_none, errW_some] <;> rfl), by repeat (first | (with_reducible first | exact HB.out | apply below_alloc | apply pw_below_drewN | apply below_drew1) | exact HB.out)⟩
          · rw [if_neg c14] at H
            exact absurd H (by simp)
        · replace c12 := Bool.eq_false_iff.mpr c12
          subst c12
          have H1 : ((utf_Text.f kj8 (([a0] : List Int))).bind fun t175 => (some t175)) = some r := by rw [if_neg (show ¬ (false = true) by decide)] at H; exact H
          clear H
          have H := H1
          clear H1
          obtain ⟨y172, hy172⟩ : ∃ y_ : List Int, y_ = (([a0] : List Int)) := ⟨_, rfl⟩
          replace H : ((utf_Text.f kj8 y172).bind fun t175 => (some t175)) = some r := by first | (rw [hy172]; with_reducible exact H) | (have H2_ := (Option.bind_some _ _).symm.trans H; rw [hy172]; with_reducible exact H2_) | (have H2_ := (Option.bind_some _ _).symm.trans H; with_reducible exact H2_) | with_reducible exact H | (rw [hy172]; exact H) | exact H
          have Ny172 := Aside0.mk hy172
          clear hy172
          replace H := Option.bind_eq_some_iff.mp H
          obtain ⟨t175, A150, H⟩ := H
          replace H : (some t175) = some r := H
          have A15 := Aside0.mk A150
          clear A150
          obtain rfl := Option.some.inj H
          go_wp2_with (first | ((with_reducible refine gate_dst (N := 29) rfl ?_); refine Kd.R_lit (Kd.int .i64) _ 3 ?hg (N := 29) ?hd (xs := ([a0] : List Int)) (inner := [.int .i64 a0]) (ok := fun _ => True) (okp := fun _ => True) ?hr ?hp (fun _ hk => hk) trivial (Below.refl _ _) (Nat.le_refl _) (by simp) ?_; (case hd => rfl); (case hg => rfl); (case hr => first | (go_simp; done) | (go_simp; rfl)); (case hp => exact (Reps.one (show Kd.M (Kd.int .i64) _ _ _ a0 [.int .i64 a0] from rfl) (Reps.none _ _))); intro v173 w16 ho17 hb hg_ hnew_; clear hg_ hnew_; (first | rw [← Ny172.out] at ho17 | (simp only [Int.reduceToNat] at ho17; rw [← Ny172.out] at ho17)); have n0_ := Aside0.mk (Kd.R_lower ho17 (below_size (by repeat (first | (with_reducible first | exact HB.out | apply below_alloc | apply pw_below_drewN | apply below_drew1) | exact HB.out)))); have n1_ := Aside0.mk (below_step (by repeat (first | (with_reducible first | exact HB.out | apply below_alloc | apply pw_below_drewN | apply below_drew1) | exact HB.out)) hb); clear HB; have HO174 := n0_; have HB := n1_; clear n0_ n1_; clear hb ho17; obtain ⟨Ao18, co18, eo18⟩ := Kd.R_slice HO174.out; subst eo18) | ((with_reducible refine gate_callee (f := 31) rfl ?_); refine goesL_ (some 30) rfl rfl Try.func31 (by kernel_rfl) rfl #[.slice Ao18 y172.length co18] rfl (by (try simp only [List.map_toArray, List.map_cons, List.map_nil]); first | done | rfl | (simp only [List.length_drop, List.length_take]; rfl)) ?_; (with_reducible refine (utf_Text.calls kj8 _ _ y172 t175 _ ?side1 ?side2 A15.out).mono ?_); (case side1 => repeat (first | exact (Kd.R_reads' HO174.out).2.2 | (with_reducible refine Kd.C_alloc ?_ _) | (with_reducible refine Kd.C_drewN ?_ _) | (with_reducible refine Kd.C_drew ?_))); (case side2 => exact (Kd.R_reads' HO174.out).2.1); rintro e w19 ⟨rfl, hb⟩; refine ⟨_, rfl, ?_⟩; have n0_ := Aside0.mk (Kd.R_below (by (with_reducible repeat (first | apply Kd.R_alloc | apply Kd.R_drewN | apply Kd.R_drew)); exact HO174.out) hb); have n1_ := Aside0.mk (below_step (by repeat (first | (with_reducible first | exact HB.out | apply below_alloc | apply pw_below_drewN | apply below_drew1) | exact HB.out)) hb); clear HO174; clear HB; have HO174 := n0_; have HB := n1_; clear n0_ n1_; (try clear hb); (try clear hb2); (try clear hk); (try clear hi)))
          go_ret
          exact ⟨by first | rfl | (simp [errW_none, errW_some] <;> rfl) | (simp only [← hji2]; first | rfl | (simp [errW_none, errW_some] <;> rfl)) | (simp [*, errW_none, errW_some] <;> rfl), by repeat (first | (with_reducible first | exact HB.out | apply below_alloc | apply pw_below_drewN | apply below_drew1) | exact HB.out)⟩

-- NOT PRINTED: function 21 (strings_Builder_String)

end Go.Proofs.Ytcioifijkonplaa.Q
