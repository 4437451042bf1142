-- Written by a program of this session (wip/tools/print2.sh), out of the translation, for this claim. Lean checks it.
import Derived.Test.YtcioifijkonplaaQx0
import Derived.Test.YtcioifijkonplaaQx7
namespace Go.Proofs.Ytcioifijkonplaa.Q
open Go.RowKit Go.Proofs.YtcioifijkonplaaW.PrintWords Go.Proofs.YtcioifijkonplaaW.PrintLast Go.Proofs.YtcioifijkonplaaW.PrintMore
attribute [local go_sem] max2_int min2_int max_two min_two max_three min_three max_four min_four   -- for this text's walks alone
set_option linter.unusedVariables false
set_option linter.unusedSimpArgs false

/-! ### abridgerlaw8_JstringEach: function 7 -/
def abridgerlaw8_JstringEach.f (k : Nat) (a0 : Int) : Option (Bool) := (abridgerlaw8_alive.f k).bind fun t365 => ((some (([0, 8, 9, 10, 12, 13, 31, 32, 34, 47, 92, 127, 233, 8232, 55296, 56320, 65535] : List Int) : List Int)).bind fun y366 => ((some (([(⟨#[92, 117, 48, 48, 48, 48]⟩ : ByteArray), (⟨#[92, 98]⟩ : ByteArray), (⟨#[92, 116]⟩ : ByteArray), (⟨#[92, 110]⟩ : ByteArray), (⟨#[92, 102]⟩ : ByteArray), (⟨#[92, 114]⟩ : ByteArray), (⟨#[92, 117, 48, 48, 49, 102]⟩ : ByteArray), (⟨#[32]⟩ : ByteArray), (⟨#[92, 34]⟩ : ByteArray), (⟨#[47]⟩ : ByteArray), (⟨#[92, 92]⟩ : ByteArray), (⟨#[127]⟩ : ByteArray), (⟨#[195, 169]⟩ : ByteArray), (⟨#[226, 128, 168]⟩ : ByteArray), (⟨#[92, 117, 100, 56, 48, 48]⟩ : ByteArray), (⟨#[92, 117, 100, 99, 48, 48]⟩ : ByteArray), (⟨#[239, 191, 191]⟩ : ByteArray)] : List ByteArray) : List ByteArray)).bind fun y369 => (if t365 = true then (if a0 < 0 then (some t365) else (if a0 ≥ (y366.length : Int) then (some t365) else (if 0 ≤ a0 then (if a0 < (y366.length : Int) then ((jstring_Spell.f k (([rd y366 a0] : List Int))).bind fun t376 => (if a0 < (y369.length : Int) then (if 1 + (rdOf ByteArray.empty y369 a0).size ≤ 9223372036854775807 then (if ((⟨#[34]⟩ : ByteArray) ++ (rdOf ByteArray.empty y369 a0)).size + 1 ≤ 9223372036854775807 then (some (t376.toList == (((⟨#[34]⟩ : ByteArray) ++ (rdOf ByteArray.empty y369 a0)) ++ (⟨#[34]⟩ : ByteArray)).toList)) else (none)) else (none)) else (none))) else (none)) else (none)))) else (some t365))))
theorem abridgerlaw8_JstringEach.mono : ∀ a0 k, LeO (abridgerlaw8_JstringEach.f k a0) (abridgerlaw8_JstringEach.f (k + 1) a0) := by
  intro a0 k
  unfold abridgerlaw8_JstringEach.f
  repeat' first
      | (with_reducible exact abridgerlaw8_alive.mono _)
      | (with_reducible exact jstring_Spell.mono _ _)
      | (with_reducible exact LeO.refl _)
      | (with_reducible exact LeO.none _)
      | (with_reducible refine LeO.ite ?_ ?_)
      | (with_reducible refine LeO.bind ?_ (fun _ => ?_))
      | exact abridgerlaw8_alive.mono _
      | exact jstring_Spell.mono _ _
      | exact LeO.none _
      | refine LeO.ite ?_ ?_
      | refine LeO.bind ?_ (fun _ => ?_)
def abridgerlaw8_JstringEach.T6 : Bool × List (List Nat × List Nat) := (true, [([], []), ([], []), ([0, 1], [0, 1]), ([2], [2]), ([3], [3]), ([4], [4]), ([], []), ([], []), ([6, 7], [6, 7]), ([8], [8]), ([9], [9]), ([10], [10]), ([5, 11], [5, 11]), ([12, 5, 0, 1, 2, 3, 4, 5, 6, 7, 8, 9, 10, 11, 12], [12])])
def abridgerlaw8_JstringEach.B6 : List Nat := [0, 0, 3, 7, 15, 31, 0, 0, 192, 448, 960, 1984, 4095, 8191]
theorem abridgerlaw8_JstringEach.tab6 : rtab .any (opsOf Try.f7 6) = abridgerlaw8_JstringEach.T6 := by kernel_rfl
theorem abridgerlaw8_JstringEach.bits6 : waitsOk abridgerlaw8_JstringEach.T6.2 abridgerlaw8_JstringEach.B6 = true := by kernel_rfl
set_option maxHeartbeats 8000000 in
set_option maxRecDepth 100000 in
theorem abridgerlaw8_JstringEach.calls (k : Nat) (a0 : Int) (r : Bool) (w : World) (h : abridgerlaw8_JstringEach.f k a0 = some r) :
    Calls Try.prog 7 #[.int .i64 a0] w fun e w' => e = .returned (.bool r) ∧ Below w.heap.size w w' := by
  have HB := Aside0.mk (Below.refl w.heap.size w)
  have H : ((abridgerlaw8_alive.f k).bind fun t365 => ((some (([0, 8, 9, 10, 12, 13, 31, 32, 34, 47, 92, 127, 233, 8232, 55296, 56320, 65535] : List Int) : List Int)).bind fun y366 => ((some (([(⟨#[92, 117, 48, 48, 48, 48]⟩ : ByteArray), (⟨#[92, 98]⟩ : ByteArray), (⟨#[92, 116]⟩ : ByteArray), (⟨#[92, 110]⟩ : ByteArray), (⟨#[92, 102]⟩ : ByteArray), (⟨#[92, 114]⟩ : ByteArray), (⟨#[92, 117, 48, 48, 49, 102]⟩ : ByteArray), (⟨#[32]⟩ : ByteArray), (⟨#[92, 34]⟩ : ByteArray), (⟨#[47]⟩ : ByteArray), (⟨#[92, 92]⟩ : ByteArray), (⟨#[127]⟩ : ByteArray), (⟨#[195, 169]⟩ : ByteArray), (⟨#[226, 128, 168]⟩ : ByteArray), (⟨#[92, 117, 100, 56, 48, 48]⟩ : ByteArray), (⟨#[92, 117, 100, 99, 48, 48]⟩ : ByteArray), (⟨#[239, 191, 191]⟩ : ByteArray)] : List ByteArray) : List ByteArray)).bind fun y369 => (if t365 = true then (if a0 < 0 then (some t365) else (if a0 ≥ (y366.length : Int) then (some t365) else (if 0 ≤ a0 then (if a0 < (y366.length : Int) then ((jstring_Spell.f k (([rd y366 a0] : List Int))).bind fun t376 => (if a0 < (y369.length : Int) then (if 1 + (rdOf ByteArray.empty y369 a0).size ≤ 9223372036854775807 then (if ((⟨#[34]⟩ : ByteArray) ++ (rdOf ByteArray.empty y369 a0)).size + 1 ≤ 9223372036854775807 then (some (t376.toList == (((⟨#[34]⟩ : ByteArray) ++ (rdOf ByteArray.empty y369 a0)) ++ (⟨#[34]⟩ : ByteArray)).toList)) else (none)) else (none)) else (none))) else (none)) else (none)))) else (some t365))))) = some r := h
  clear h
  replace H := Option.bind_eq_some_iff.mp H
  obtain ⟨t365, A20, H⟩ := H
  replace H : ((some (([0, 8, 9, 10, 12, 13, 31, 32, 34, 47, 92, 127, 233, 8232, 55296, 56320, 65535] : List Int) : List Int)).bind fun y366 => ((some (([(⟨#[92, 117, 48, 48, 48, 48]⟩ : ByteArray), (⟨#[92, 98]⟩ : ByteArray), (⟨#[92, 116]⟩ : ByteArray), (⟨#[92, 110]⟩ : ByteArray), (⟨#[92, 102]⟩ : ByteArray), (⟨#[92, 114]⟩ : ByteArray), (⟨#[92, 117, 48, 48, 49, 102]⟩ : ByteArray), (⟨#[32]⟩ : ByteArray), (⟨#[92, 34]⟩ : ByteArray), (⟨#[47]⟩ : ByteArray), (⟨#[92, 92]⟩ : ByteArray), (⟨#[127]⟩ : ByteArray), (⟨#[195, 169]⟩ : ByteArray), (⟨#[226, 128, 168]⟩ : ByteArray), (⟨#[92, 117, 100, 56, 48, 48]⟩ : ByteArray), (⟨#[92, 117, 100, 99, 48, 48]⟩ : ByteArray), (⟨#[239, 191, 191]⟩ : ByteArray)] : List ByteArray) : List ByteArray)).bind fun y369 => (if t365 = true then (if a0 < 0 then (some t365) else (if a0 ≥ (y366.length : Int) then (some t365) else (if 0 ≤ a0 then (if a0 < (y366.length : Int) then ((jstring_Spell.f k (([rd y366 a0] : List Int))).bind fun t376 => (if a0 < (y369.length : Int) then (if 1 + (rdOf ByteArray.empty y369 a0).size ≤ 9223372036854775807 then (if ((⟨#[34]⟩ : ByteArray) ++ (rdOf ByteArray.empty y369 a0)).size + 1 ≤ 9223372036854775807 then (some (t376.toList == (((⟨#[34]⟩ : ByteArray) ++ (rdOf ByteArray.empty y369 a0)) ++ (⟨#[34]⟩ : ByteArray)).toList)) else (none)) else (none)) else (none))) else (none)) else (none)))) else (some t365)))) = some r := H
  have A2 := Aside0.mk A20
  clear A20
  obtain ⟨y366, hy366⟩ : ∃ y_ : List Int, y_ = (([0, 8, 9, 10, 12, 13, 31, 32, 34, 47, 92, 127, 233, 8232, 55296, 56320, 65535] : List Int)) := ⟨_, rfl⟩
  replace H : ((some (([(⟨#[92, 117, 48, 48, 48, 48]⟩ : ByteArray), (⟨#[92, 98]⟩ : ByteArray), (⟨#[92, 116]⟩ : ByteArray), (⟨#[92, 110]⟩ : ByteArray), (⟨#[92, 102]⟩ : ByteArray), (⟨#[92, 114]⟩ : ByteArray), (⟨#[92, 117, 48, 48, 49, 102]⟩ : ByteArray), (⟨#[32]⟩ : ByteArray), (⟨#[92, 34]⟩ : ByteArray), (⟨#[47]⟩ : ByteArray), (⟨#[92, 92]⟩ : ByteArray), (⟨#[127]⟩ : ByteArray), (⟨#[195, 169]⟩ : ByteArray), (⟨#[226, 128, 168]⟩ : ByteArray), (⟨#[92, 117, 100, 56, 48, 48]⟩ : ByteArray), (⟨#[92, 117, 100, 99, 48, 48]⟩ : ByteArray), (⟨#[239, 191, 191]⟩ : ByteArray)] : List ByteArray) : List ByteArray)).bind fun y369 => (if t365 = true then (if a0 < 0 then (some t365) else (if a0 ≥ (y366.length : Int) then (some t365) else (if 0 ≤ a0 then (if a0 < (y366.length : Int) then ((jstring_Spell.f k (([rd y366 a0] : List Int))).bind fun t376 => (if a0 < (y369.length : Int) then (if 1 + (rdOf ByteArray.empty y369 a0).size ≤ 9223372036854775807 then (if ((⟨#[34]⟩ : ByteArray) ++ (rdOf ByteArray.empty y369 a0)).size + 1 ≤ 9223372036854775807 then (some (t376.toList == (((⟨#[34]⟩ : ByteArray) ++ (rdOf ByteArray.empty y369 a0)) ++ (⟨#[34]⟩ : ByteArray)).toList)) else (none)) else (none)) else (none))) else (none)) else (none)))) else (some t365))) = some r := by first | (rw [hy366]; with_reducible exact H) | (have H2_ := (Option.bind_some _ _).symm.trans H; rw [hy366]; with_reducible exact H2_) | (have H2_ := (Option.bind_some _ _).symm.trans H; with_reducible exact H2_) | with_reducible exact H | (rw [hy366]; exact H) | exact H
  have Ny366 := Aside0.mk hy366
  clear hy366
  obtain ⟨y369, hy369⟩ : ∃ y_ : List ByteArray, y_ = (([(⟨#[92, 117, 48, 48, 48, 48]⟩ : ByteArray), (⟨#[92, 98]⟩ : ByteArray), (⟨#[92, 116]⟩ : ByteArray), (⟨#[92, 110]⟩ : ByteArray), (⟨#[92, 102]⟩ : ByteArray), (⟨#[92, 114]⟩ : ByteArray), (⟨#[92, 117, 48, 48, 49, 102]⟩ : ByteArray), (⟨#[32]⟩ : ByteArray), (⟨#[92, 34]⟩ : ByteArray), (⟨#[47]⟩ : ByteArray), (⟨#[92, 92]⟩ : ByteArray), (⟨#[127]⟩ : ByteArray), (⟨#[195, 169]⟩ : ByteArray), (⟨#[226, 128, 168]⟩ : ByteArray), (⟨#[92, 117, 100, 56, 48, 48]⟩ : ByteArray), (⟨#[92, 117, 100, 99, 48, 48]⟩ : ByteArray), (⟨#[239, 191, 191]⟩ : ByteArray)] : List ByteArray)) := ⟨_, rfl⟩
  replace H : (if t365 = true then (if a0 < 0 then (some t365) else (if a0 ≥ (y366.length : Int) then (some t365) else (if 0 ≤ a0 then (if a0 < (y366.length : Int) then ((jstring_Spell.f k (([rd y366 a0] : List Int))).bind fun t376 => (if a0 < (y369.length : Int) then (if 1 + (rdOf ByteArray.empty y369 a0).size ≤ 9223372036854775807 then (if ((⟨#[34]⟩ : ByteArray) ++ (rdOf ByteArray.empty y369 a0)).size + 1 ≤ 9223372036854775807 then (some (t376.toList == (((⟨#[34]⟩ : ByteArray) ++ (rdOf ByteArray.empty y369 a0)) ++ (⟨#[34]⟩ : ByteArray)).toList)) else (none)) else (none)) else (none))) else (none)) else (none)))) else (some t365)) = some r := by first | (rw [hy369]; with_reducible exact H) | (have H2_ := (Option.bind_some _ _).symm.trans H; rw [hy369]; with_reducible exact H2_) | (have H2_ := (Option.bind_some _ _).symm.trans H; with_reducible exact H2_) | with_reducible exact H | (rw [hy369]; exact H) | exact H
  have Ny369 := Aside0.mk hy369
  clear hy369
  by_cases c3 : t365 = true
  · subst c3
    have H1 : (if a0 < 0 then (some true) else (if a0 ≥ (y366.length : Int) then (some true) else (if 0 ≤ a0 then (if a0 < (y366.length : Int) then ((jstring_Spell.f k (([rd y366 a0] : List Int))).bind fun t376 => (if a0 < (y369.length : Int) then (if 1 + (rdOf ByteArray.empty y369 a0).size ≤ 9223372036854775807 then (if ((⟨#[34]⟩ : ByteArray) ++ (rdOf ByteArray.empty y369 a0)).size + 1 ≤ 9223372036854775807 then (some (t376.toList == (((⟨#[34]⟩ : ByteArray) ++ (rdOf ByteArray.empty y369 a0)) ++ (⟨#[34]⟩ : ByteArray)).toList)) else (none)) else (none)) else (none))) else (none)) else (none)))) = some r := by rw [if_pos rfl] at H; exact H
    clear H
    have H := H1
    clear H1
    by_cases c4 : a0 < 0
    · rw [if_pos c4] at H
      have c4b0 : decide (a0 < 0) = true := decide_eq_true c4
      clear c4
      obtain rfl := Option.some.inj H
      go_enter Try.func7, Try.ntmps7
      go_wp2_with (first | ((with_reducible refine gate_callee (f := 8) rfl ?_); refine goesL_ (some 6) rfl rfl Try.func8 (by kernel_rfl) rfl #[] rfl (by (try simp only [List.map_toArray, List.map_cons, List.map_nil]); first | done | rfl | (simp only [List.length_drop, List.length_take]; rfl)) ?_; (with_reducible refine (abridgerlaw8_alive.calls k  true _ A2.out).mono ?_); rintro e w5 ⟨rfl, hb⟩; refine ⟨_, rfl, ?_⟩; have n0_ := Aside0.mk (below_step (by repeat (first | (with_reducible first | exact HB.out | apply below_alloc | apply pw_below_drewN | apply below_drew1) | exact HB.out)) hb); clear HB; have HB := n0_; clear n0_; (try clear hb); (try clear hb2); (try clear hk); (try clear hi)) | ((with_reducible refine gate_dst (N := 7) rfl ?_); (try (refine gate_guard (by rfl) ?_; dsimp only)); refine Kd.R_lit (Kd.int .i64) _ 3 ?hg (N := 7) ?hd (xs := ([0, 8, 9, 10, 12, 13, 31, 32, 34, 47, 92, 127, 233, 8232, 55296, 56320, 65535] : List Int)) (inner := [.int .i64 0, .int .i64 8, .int .i64 9, .int .i64 10, .int .i64 12, .int .i64 13, .int .i64 31, .int .i64 32, .int .i64 34, .int .i64 47, .int .i64 92, .int .i64 127, .int .i64 233, .int .i64 8232, .int .i64 55296, .int .i64 56320, .int .i64 65535]) (ok := fun _ => True) (okp := fun _ => True) ?hr ?hp (fun _ hk => hk) trivial (Below.refl _ _) (Nat.le_refl _) (by simp) ?_; (case hd => rfl); (case hg => rfl); (case hr => first | (go_simp; done) | (go_simp; rfl)); (case hp => exact (Reps.one (show Kd.M (Kd.int .i64) _ _ _ 0 [.int .i64 0] from rfl) (Reps.one (show Kd.M (Kd.int .i64) _ _ _ 8 [.int .i64 8] from rfl) (Reps.one (show Kd.M (Kd.int .i64) _ _ _ 9 [.int .i64 9] from rfl) (Reps.one (show Kd.M (Kd.int .i64) _ _ _ 10 [.int .i64 10] from rfl) (Reps.one (show Kd.M (Kd.int .i64) _ _ _ 12 [.int .i64 12] from rfl) (Reps.one (show Kd.M (Kd.int .i64) _ _ _ 13 [.int .i64 13] from rfl) (Reps.one (show Kd.M (Kd.int .i64) _ _ _ 31 [.int .i64 31] from rfl) (Reps.one (show Kd.M (Kd.int .i64) _ _ _ 32 [.int .i64 32] from rfl) (Reps.one (show Kd.M (Kd.int .i64) _ _ _ 34 [.int .i64 34] from rfl) (Reps.one (show Kd.M (Kd.int .i64) _ _ _ 47 [.int .i64 47] from rfl) (Reps.one (show Kd.M (Kd.int .i64) _ _ _ 92 [.int .i64 92] from rfl) (Reps.one (show Kd.M (Kd.int .i64) _ _ _ 127 [.int .i64 127] from rfl) (Reps.one (show Kd.M (Kd.int .i64) _ _ _ 233 [.int .i64 233] from rfl) (Reps.one (show Kd.M (Kd.int .i64) _ _ _ 8232 [.int .i64 8232] from rfl) (Reps.one (show Kd.M (Kd.int .i64) _ _ _ 55296 [.int .i64 55296] from rfl) (Reps.one (show Kd.M (Kd.int .i64) _ _ _ 56320 [.int .i64 56320] from rfl) (Reps.one (show Kd.M (Kd.int .i64) _ _ _ 65535 [.int .i64 65535] from rfl) (Reps.none _ _))))))))))))))))))); intro v367 w6 ho7 hb hg_ hnew_; clear hg_ hnew_; (first | rw [← Ny366.out] at ho7 | (simp only [Int.reduceToNat] at ho7; rw [← Ny366.out] at ho7)); have n0_ := Aside0.mk (Kd.R_lower ho7 (below_size (by repeat (first | (with_reducible first | exact HB.out | apply below_alloc | apply pw_below_drewN | apply below_drew1) | exact HB.out)))); have n1_ := Aside0.mk (below_step (by repeat (first | (with_reducible first | exact HB.out | apply below_alloc | apply pw_below_drewN | apply below_drew1) | exact HB.out)) hb); clear HB; have HO368 := n0_; have HB := n1_; clear n0_ n1_; clear hb ho7) | ((with_reducible refine gate_dst (N := 8) rfl ?_); (try (refine gate_guard (by rfl) ?_; dsimp only)); refine Kd.R_lit Kd.string _ 9 ?hg (N := 8) ?hd (xs := ([(⟨#[92, 117, 48, 48, 48, 48]⟩ : ByteArray), (⟨#[92, 98]⟩ : ByteArray), (⟨#[92, 116]⟩ : ByteArray), (⟨#[92, 110]⟩ : ByteArray), (⟨#[92, 102]⟩ : ByteArray), (⟨#[92, 114]⟩ : ByteArray), (⟨#[92, 117, 48, 48, 49, 102]⟩ : ByteArray), (⟨#[32]⟩ : ByteArray), (⟨#[92, 34]⟩ : ByteArray), (⟨#[47]⟩ : ByteArray), (⟨#[92, 92]⟩ : ByteArray), (⟨#[127]⟩ : ByteArray), (⟨#[195, 169]⟩ : ByteArray), (⟨#[226, 128, 168]⟩ : ByteArray), (⟨#[92, 117, 100, 56, 48, 48]⟩ : ByteArray), (⟨#[92, 117, 100, 99, 48, 48]⟩ : ByteArray), (⟨#[239, 191, 191]⟩ : ByteArray)] : List ByteArray)) (inner := [.string (⟨#[92, 117, 48, 48, 48, 48]⟩ : ByteArray), .string (⟨#[92, 98]⟩ : ByteArray), .string (⟨#[92, 116]⟩ : ByteArray), .string (⟨#[92, 110]⟩ : ByteArray), .string (⟨#[92, 102]⟩ : ByteArray), .string (⟨#[92, 114]⟩ : ByteArray), .string (⟨#[92, 117, 48, 48, 49, 102]⟩ : ByteArray), .string (⟨#[32]⟩ : ByteArray), .string (⟨#[92, 34]⟩ : ByteArray), .string (⟨#[47]⟩ : ByteArray), .string (⟨#[92, 92]⟩ : ByteArray), .string (⟨#[127]⟩ : ByteArray), .string (⟨#[195, 169]⟩ : ByteArray), .string (⟨#[226, 128, 168]⟩ : ByteArray), .string (⟨#[92, 117, 100, 56, 48, 48]⟩ : ByteArray), .string (⟨#[92, 117, 100, 99, 48, 48]⟩ : ByteArray), .string (⟨#[239, 191, 191]⟩ : ByteArray)]) (ok := fun _ => True) (okp := fun _ => True) ?hr ?hp (fun _ hk => hk) trivial (Below.refl _ _) (Nat.le_refl _) (by simp) ?_; (case hd => rfl); (case hg => rfl); (case hr => first | (go_simp; done) | (go_simp; rfl)); (case hp => exact (Reps.one (show Kd.M Kd.string _ _ _ (⟨#[92, 117, 48, 48, 48, 48]⟩ : ByteArray) [.string (⟨#[92, 117, 48, 48, 48, 48]⟩ : ByteArray)] from rfl) (Reps.one (show Kd.M Kd.string _ _ _ (⟨#[92, 98]⟩ : ByteArray) [.string (⟨#[92, 98]⟩ : ByteArray)] from rfl) (Reps.one (show Kd.M Kd.string _ _ _ (⟨#[92, 116]⟩ : ByteArray) [.string (⟨#[92, 116]⟩ : ByteArray)] from rfl) (Reps.one (show Kd.M Kd.string _ _ _ (⟨#[92, 110]⟩ : ByteArray) [.string (⟨#[92, 110]⟩ : ByteArray)] from rfl) (Reps.one (show Kd.M Kd.string _ _ _ (⟨#[92, 102]⟩ : ByteArray) [.string (⟨#[92, 102]⟩ : ByteArray)] from rfl) (Reps.one (show Kd.M Kd.string _ _ _ (⟨#[92, 114]⟩ : ByteArray) [.string (⟨#[92, 114]⟩ : ByteArray)] from rfl) (Reps.one (show Kd.M Kd.string _ _ _ (⟨#[92, 117, 48, 48, 49, 102]⟩ : ByteArray) [.string (⟨#[92, 117, 48, 48, 49, 102]⟩ : ByteArray)] from rfl) (Reps.one (show Kd.M Kd.string _ _ _ (⟨#[32]⟩ : ByteArray) [.string (⟨#[32]⟩ : ByteArray)] from rfl) (Reps.one (show Kd.M Kd.string _ _ _ (⟨#[92, 34]⟩ : ByteArray) [.string (⟨#[92, 34]⟩ : ByteArray)] from rfl) (Reps.one (show Kd.M Kd.string _ _ _ (⟨#[47]⟩ : ByteArray) [.string (⟨#[47]⟩ : ByteArray)] from rfl) (Reps.one (show Kd.M Kd.string _ _ _ (⟨#[92, 92]⟩ : ByteArray) [.string (⟨#[92, 92]⟩ : ByteArray)] from rfl) (Reps.one (show Kd.M Kd.string _ _ _ (⟨#[127]⟩ : ByteArray) [.string (⟨#[127]⟩ : ByteArray)] from rfl) (Reps.one (show Kd.M Kd.string _ _ _ (⟨#[195, 169]⟩ : ByteArray) [.string (⟨#[195, 169]⟩ : ByteArray)] from rfl) (Reps.one (show Kd.M Kd.string _ _ _ (⟨#[226, 128, 168]⟩ : ByteArray) [.string (⟨#[226, 128, 168]⟩ : ByteArray)] from rfl) (Reps.one (show Kd.M Kd.string _ _ _ (⟨#[92, 117, 100, 56, 48, 48]⟩ : ByteArray) [.string (⟨#[92, 117, 100, 56, 48, 48]⟩ : ByteArray)] from rfl) (Reps.one (show Kd.M Kd.string _ _ _ (⟨#[92, 117, 100, 99, 48, 48]⟩ : ByteArray) [.string (⟨#[92, 117, 100, 99, 48, 48]⟩ : ByteArray)] from rfl) (Reps.one (show Kd.M Kd.string _ _ _ (⟨#[239, 191, 191]⟩ : ByteArray) [.string (⟨#[239, 191, 191]⟩ : ByteArray)] from rfl) (Reps.none _ _))))))))))))))))))); intro v370 w8 ho9 hb hg_ hnew_; clear hg_ hnew_; (first | rw [← Ny369.out] at ho9 | (simp only [Int.reduceToNat] at ho9; rw [← Ny369.out] at ho9)); have n0_ := Aside0.mk (Kd.R_below (by (with_reducible repeat (first | apply Kd.R_alloc | apply Kd.R_drewN | apply Kd.R_drew)); exact HO368.out) hb); have n1_ := Aside0.mk (Kd.R_lower ho9 (below_size (by repeat (first | (with_reducible first | exact HB.out | apply below_alloc | apply pw_below_drewN | apply below_drew1) | exact HB.out)))); have n2_ := Aside0.mk (below_step (by repeat (first | (with_reducible first | exact HB.out | apply below_alloc | apply pw_below_drewN | apply below_drew1) | exact HB.out)) hb); clear HO368; clear HB; have HO368 := n0_; have HO371 := n1_; have HB := n2_; clear n0_ n1_ n2_; clear hb ho9))
      go_ret
      exact ⟨by first | rfl | (simp [errW_none, errW_some] <;> rfl) | (simp [*, errW_none, errW_some] <;> rfl), by repeat (first | (with_reducible first | exact HB.out | apply below_alloc | apply pw_below_drewN | apply below_drew1) | exact HB.out)⟩
    · rw [if_neg c4] at H
      have c4b0 : decide (a0 < 0) = false := decide_eq_false c4
      clear c4
      by_cases c10 : a0 ≥ (y366.length : Int)
      · rw [if_pos c10] at H
        have c10b0 : decide ((y366.length : Int) ≤ a0) = true := decide_eq_true c10
        clear c10
        obtain rfl := Option.some.inj H
        go_enter Try.func7, Try.ntmps7
        go_wp2_with (first | ((with_reducible refine gate_callee (f := 8) rfl ?_); refine goesL_ (some 6) rfl rfl Try.func8 (by kernel_rfl) rfl #[] rfl (by (try simp only [List.map_toArray, List.map_cons, List.map_nil]); first | done | rfl | (simp only [List.length_drop, List.length_take]; rfl)) ?_; (with_reducible refine (abridgerlaw8_alive.calls k  true _ A2.out).mono ?_); rintro e w11 ⟨rfl, hb⟩; refine ⟨_, rfl, ?_⟩; have n0_ := Aside0.mk (below_step (by repeat (first | (with_reducible first | exact HB.out | apply below_alloc | apply pw_below_drewN | apply below_drew1) | exact HB.out)) hb); clear HB; have HB := n0_; clear n0_; (try clear hb); (try clear hb2); (try clear hk); (try clear hi)) | ((with_reducible refine gate_dst (N := 7) rfl ?_); (try (refine gate_guard (by rfl) ?_; dsimp only)); refine Kd.R_lit (Kd.int .i64) _ 3 ?hg (N := 7) ?hd (xs := ([0, 8, 9, 10, 12, 13, 31, 32, 34, 47, 92, 127, 233, 8232, 55296, 56320, 65535] : List Int)) (inner := [.int .i64 0, .int .i64 8, .int .i64 9, .int .i64 10, .int .i64 12, .int .i64 13, .int .i64 31, .int .i64 32, .int .i64 34, .int .i64 47, .int .i64 92, .int .i64 127, .int .i64 233, .int .i64 8232, .int .i64 55296, .int .i64 56320, .int .i64 65535]) (ok := fun _ => True) (okp := fun _ => True) ?hr ?hp (fun _ hk => hk) trivial (Below.refl _ _) (Nat.le_refl _) (by simp) ?_; (case hd => rfl); (case hg => rfl); (case hr => first | (go_simp; done) | (go_simp; rfl)); (case hp => exact (Reps.one (show Kd.M (Kd.int .i64) _ _ _ 0 [.int .i64 0] from rfl) (Reps.one (show Kd.M (Kd.int .i64) _ _ _ 8 [.int .i64 8] from rfl) (Reps.one (show Kd.M (Kd.int .i64) _ _ _ 9 [.int .i64 9] from rfl) (Reps.one (show Kd.M (Kd.int .i64) _ _ _ 10 [.int .i64 10] from rfl) (Reps.one (show Kd.M (Kd.int .i64) _ _ _ 12 [.int .i64 12] from rfl) (Reps.one (show Kd.M (Kd.int .i64) _ _ _ 13 [.int .i64 13] from rfl) (Reps.one (show Kd.M (Kd.int .i64) _ _ _ 31 [.int .i64 31] from rfl) (Reps.one (show Kd.M (Kd.int .i64) _ _ _ 32 [.int .i64 32] from rfl) (Reps.one (show Kd.M (Kd.int .i64) _ _ _ 34 [.int .i64 34] from rfl) (Reps.one (show Kd.M (Kd.int .i64) _ _ _ 47 [.int .i64 47] from rfl) (Reps.one (show Kd.M (Kd.int .i64) _ _ _ 92 [.int .i64 92] from rfl) (Reps.one (show Kd.M (Kd.int .i64) _ _ _ 127 [.int .i64 127] from rfl) (Reps.one (show Kd.M (Kd.int .i64) _ _ _ 233 [.int .i64 233] from rfl) (Reps.one (show Kd.M (Kd.int .i64) _ _ _ 8232 [.int .i64 8232] from rfl) (Reps.one (show Kd.M (Kd.int .i64) _ _ _ 55296 [.int .i64 55296] from rfl) (Reps.one (show Kd.M (Kd.int .i64) _ _ _ 56320 [.int .i64 56320] from rfl) (Reps.one (show Kd.M (Kd.int .i64) _ _ _ 65535 [.int .i64 65535] from rfl) (Reps.none _ _))))))))))))))))))); intro v367 w12 ho13 hb hg_ hnew_; clear hg_ hnew_; (first | rw [← Ny366.out] at ho13 | (simp only [Int.reduceToNat] at ho13; rw [← Ny366.out] at ho13)); have n0_ := Aside0.mk (Kd.R_lower ho13 (below_size (by repeat (first | (with_reducible first | exact HB.out | apply below_alloc | apply pw_below_drewN | apply below_drew1) | exact HB.out)))); have n1_ := Aside0.mk (below_step (by repeat (first | (with_reducible first | exact HB.out | apply below_alloc | apply pw_below_drewN | apply below_drew1) | exact HB.out)) hb); clear HB; have HO368 := n0_; have HB := n1_; clear n0_ n1_; clear hb ho13) | ((with_reducible refine gate_dst (N := 8) rfl ?_); (try (refine gate_guard (by rfl) ?_; dsimp only)); refine Kd.R_lit Kd.string _ 9 ?hg (N := 8) ?hd (xs := ([(⟨#[92, 117, 48, 48, 48, 48]⟩ : ByteArray), (⟨#[92, 98]⟩ : ByteArray), (⟨#[92, 116]⟩ : ByteArray), (⟨#[92, 110]⟩ : ByteArray), (⟨#[92, 102]⟩ : ByteArray), (⟨#[92, 114]⟩ : ByteArray), (⟨#[92, 117, 48, 48, 49, 102]⟩ : ByteArray), (⟨#[32]⟩ : ByteArray), (⟨#[92, 34]⟩ : ByteArray), (⟨#[47]⟩ : ByteArray), (⟨#[92, 92]⟩ : ByteArray), (⟨#[127]⟩ : ByteArray), (⟨#[195, 169]⟩ : ByteArray), (⟨#[226, 128, 168]⟩ : ByteArray), (⟨#[92, 117, 100, 56, 48, 48]⟩ : ByteArray), (⟨#[92, 117, 100, 99, 48, 48]⟩ : ByteArray), (⟨#[239, 191, 191]⟩ : ByteArray)] : List ByteArray)) (inner := [.string (⟨#[92, 117, 48, 48, 48, 48]⟩ : ByteArray), .string (⟨#[92, 98]⟩ : ByteArray), .string (⟨#[92, 116]⟩ : ByteArray), .string (⟨#[92, 110]⟩ : ByteArray), .string (⟨#[92, 102]⟩ : ByteArray), .string (⟨#[92, 114]⟩ : ByteArray), .string (⟨#[92, 117, 48, 48, 49, 102]⟩ : ByteArray), .string (⟨#[32]⟩ : ByteArray), .string (⟨#[92, 34]⟩ : ByteArray), .string (⟨#[47]⟩ : ByteArray), .string (⟨#[92, 92]⟩ : ByteArray), .string (⟨#[127]⟩ : ByteArray), .string (⟨#[195, 169]⟩ : ByteArray), .string (⟨#[226, 128, 168]⟩ : ByteArray), .string (⟨#[92, 117, 100, 56, 48, 48]⟩ : ByteArray), .string (⟨#[92, 117, 100, 99, 48, 48]⟩ : ByteArray), .string (⟨#[239, 191, 191]⟩ : ByteArray)]) (ok := fun _ => True) (okp := fun _ => True) ?hr ?hp (fun _ hk => hk) trivial (Below.refl _ _) (Nat.le_refl _) (by simp) ?_; (case hd => rfl); (case hg => rfl); (case hr => first | (go_simp; done) | (go_simp; rfl)); (case hp => exact (Reps.one (show Kd.M Kd.string _ _ _ (⟨#[92, 117, 48, 48, 48, 48]⟩ : ByteArray) [.string (⟨#[92, 117, 48, 48, 48, 48]⟩ : ByteArray)] from rfl) (Reps.one (show Kd.M Kd.string _ _ _ (⟨#[92, 98]⟩ : ByteArray) [.string (⟨#[92, 98]⟩ : ByteArray)] from rfl) (Reps.one (show Kd.M Kd.string _ _ _ (⟨#[92, 116]⟩ : ByteArray) [.string (⟨#[92, 116]⟩ : ByteArray)] from rfl) (Reps.one (show Kd.M Kd.string _ _ _ (⟨#[92, 110]⟩ : ByteArray) [.string (⟨#[92, 110]⟩ : ByteArray)] from rfl) (Reps.one (show Kd.M Kd.string _ _ _ (⟨#[92, 102]⟩ : ByteArray) [.string (⟨#[92, 102]⟩ : ByteArray)] from rfl) (Reps.one (show Kd.M Kd.string _ _ _ (⟨#[92, 114]⟩ : ByteArray) [.string (⟨#[92, 114]⟩ : ByteArray)] from rfl) (Reps.one (show Kd.M Kd.string _ _ _ (⟨#[92, 117, 48, 48, 49, 102]⟩ : ByteArray) [.string (⟨#[92, 117, 48, 48, 49, 102]⟩ : ByteArray)] from rfl) (Reps.one (show Kd.M Kd.string _ _ _ (⟨#[32]⟩ : ByteArray) [.string (⟨#[32]⟩ : ByteArray)] from rfl) (Reps.one (show Kd.M Kd.string _ _ _ (⟨#[92, 34]⟩ : ByteArray) [.string (⟨#[92, 34]⟩ : ByteArray)] from rfl) (Reps.one (show Kd.M Kd.string _ _ _ (⟨#[47]⟩ : ByteArray) [.string (⟨#[47]⟩ : ByteArray)] from rfl) (Reps.one (show Kd.M Kd.string _ _ _ (⟨#[92, 92]⟩ : ByteArray) [.string (⟨#[92, 92]⟩ : ByteArray)] from rfl) (Reps.one (show Kd.M Kd.string _ _ _ (⟨#[127]⟩ : ByteArray) [.string (⟨#[127]⟩ : ByteArray)] from rfl) (Reps.one (show Kd.M Kd.string _ _ _ (⟨#[195, 169]⟩ : ByteArray) [.string (⟨#[195, 169]⟩ : ByteArray)] from rfl) (Reps.one (show Kd.M Kd.string _ _ _ (⟨#[226, 128, 168]⟩ : ByteArray) [.string (⟨#[226, 128, 168]⟩ : ByteArray)] from rfl) (Reps.one (show Kd.M Kd.string _ _ _ (⟨#[92, 117, 100, 56, 48, 48]⟩ : ByteArray) [.string (⟨#[92, 117, 100, 56, 48, 48]⟩ : ByteArray)] from rfl) (Reps.one (show Kd.M Kd.string _ _ _ (⟨#[92, 117, 100, 99, 48, 48]⟩ : ByteArray) [.string (⟨#[92, 117, 100, 99, 48, 48]⟩ : ByteArray)] from rfl) (Reps.one (show Kd.M Kd.string _ _ _ (⟨#[239, 191, 191]⟩ : ByteArray) [.string (⟨#[239, 191, 191]⟩ : ByteArray)] from rfl) (Reps.none _ _))))))))))))))))))); intro v370 w14 ho15 hb hg_ hnew_; clear hg_ hnew_; (first | rw [← Ny369.out] at ho15 | (simp only [Int.reduceToNat] at ho15; rw [← Ny369.out] at ho15)); have n0_ := Aside0.mk (Kd.R_below (by (with_reducible repeat (first | apply Kd.R_alloc | apply Kd.R_drewN | apply Kd.R_drew)); exact HO368.out) hb); have n1_ := Aside0.mk (Kd.R_lower ho15 (below_size (by repeat (first | (with_reducible first | exact HB.out | apply below_alloc | apply pw_below_drewN | apply below_drew1) | exact HB.out)))); have n2_ := Aside0.mk (below_step (by repeat (first | (with_reducible first | exact HB.out | apply below_alloc | apply pw_below_drewN | apply below_drew1) | exact HB.out)) hb); clear HO368; clear HB; have HO368 := n0_; have HO371 := n1_; have HB := n2_; clear n0_ n1_ n2_; clear hb ho15; obtain ⟨Ao16, co16, eo16⟩ := Kd.R_slice HO368.out; subst eo16))
        go_ret
        exact ⟨by first | rfl | (simp [errW_none, errW_some] <;> rfl) | (simp [*, errW_none, errW_some] <;> rfl), by repeat (first | (with_reducible first | exact HB.out | apply below_alloc | apply pw_below_drewN | apply below_drew1) | exact HB.out)⟩
      · rw [if_neg c10] at H
        have c10b0 : decide ((y366.length : Int) ≤ a0) = false := decide_eq_false c10
        clear c10
        by_cases c17 : 0 ≤ a0
        · rw [if_pos c17] at H
          have c17b0 : decide (0 ≤ a0) = true := decide_eq_true c17
          clear c17
          by_cases c18 : a0 < (y366.length : Int)
          · rw [if_pos c18] at H
            have c18b0 : decide (a0 < (y366.length : Int)) = true := decide_eq_true c18
            clear c18
            obtain ⟨y373, hy373⟩ : ∃ y_ : List Int, y_ = (([rd y366 a0] : List Int)) := ⟨_, rfl⟩
            replace H : ((jstring_Spell.f k y373).bind fun t376 => (if a0 < (y369.length : Int) then (if 1 + (rdOf ByteArray.empty y369 a0).size ≤ 9223372036854775807 then (if ((⟨#[34]⟩ : ByteArray) ++ (rdOf ByteArray.empty y369 a0)).size + 1 ≤ 9223372036854775807 then (some (t376.toList == (((⟨#[34]⟩ : ByteArray) ++ (rdOf ByteArray.empty y369 a0)) ++ (⟨#[34]⟩ : ByteArray)).toList)) else (none)) else (none)) else (none))) = some r := by first | (rw [hy373]; with_reducible exact H) | (have H2_ := (Option.bind_some _ _).symm.trans H; rw [hy373]; with_reducible exact H2_) | (have H2_ := (Option.bind_some _ _).symm.trans H; with_reducible exact H2_) | with_reducible exact H | (rw [hy373]; exact H) | exact H
            have Ny373 := Aside0.mk hy373
            clear hy373
            replace H := Option.bind_eq_some_iff.mp H
            obtain ⟨t376, A190, H⟩ := H
            replace H : (if a0 < (y369.length : Int) then (if 1 + (rdOf ByteArray.empty y369 a0).size ≤ 9223372036854775807 then (if ((⟨#[34]⟩ : ByteArray) ++ (rdOf ByteArray.empty y369 a0)).size + 1 ≤ 9223372036854775807 then (some (t376.toList == (((⟨#[34]⟩ : ByteArray) ++ (rdOf ByteArray.empty y369 a0)) ++ (⟨#[34]⟩ : ByteArray)).toList)) else (none)) else (none)) else (none)) = some r := H
            have A19 := Aside0.mk A190
            clear A190
            by_cases c20 : a0 < (y369.length : Int)
            · rw [if_pos c20] at H
              have c20b0 : decide (a0 < (y369.length : Int)) = true := decide_eq_true c20
              clear c20
              by_cases c21 : 1 + (rdOf ByteArray.empty y369 a0).size ≤ 9223372036854775807
              · rw [if_pos c21] at H
                have c21b0 := eq_true c21
                have c21b1 : decide (1 + (rdOf ByteArray.empty y369 a0).size ≤ 9223372036854775807) = true := decide_eq_true c21
                try have c21b2 : (9223372036854775807 < 1 + (rdOf ByteArray.empty y369 a0).size) = False := eq_false (Nat.not_lt.2 c21)
                by_cases c22 : ((⟨#[34]⟩ : ByteArray) ++ (rdOf ByteArray.empty y369 a0)).size + 1 ≤ 9223372036854775807
                · rw [if_pos c22] at H
                  have c22b0 := eq_true c22
                  have c22b1 : decide (((⟨#[34]⟩ : ByteArray) ++ (rdOf ByteArray.empty y369 a0)).size + 1 ≤ 9223372036854775807) = true := decide_eq_true c22
                  try (have c22b3 : (9223372036854775807 < ((⟨#[34]⟩ : ByteArray) ++ (rdOf ByteArray.empty y369 a0)).size + 1) = False := eq_false (Nat.not_lt.2 c22); simp only [ByteArray.size_append, show (⟨#[34]⟩ : ByteArray).size = 1 from rfl] at c22b3)
                  try have c22b2 : (9223372036854775807 < ((⟨#[34]⟩ : ByteArray) ++ (rdOf ByteArray.empty y369 a0)).size + 1) = False := eq_false (Nat.not_lt.2 c22)
                  obtain rfl := Option.some.inj H
                  go_enter Try.func7, Try.ntmps7
                  try go_wp2_with (first | ((with_reducible refine gate_callee (f := 8) rfl ?_); refine goesL_ (some 6) rfl rfl Try.func8 (by kernel_rfl) rfl #[] rfl (by (try simp only [List.map_toArray, List.map_cons, List.map_nil]); first | done | rfl | (simp only [List.length_drop, List.length_take]; rfl)) ?_; (with_reducible refine (abridgerlaw8_alive.calls k  true _ A2.out).mono ?_); rintro e w23 ⟨rfl, hb⟩; refine ⟨_, rfl, ?_⟩; have n0_ := Aside0.mk (below_step (by repeat (first | (with_reducible first | exact HB.out | apply below_alloc | apply pw_below_drewN | apply below_drew1) | exact HB.out)) hb); clear HB; have HB := n0_; clear n0_; (try clear hb); (try clear hb2); (try clear hk); (try clear hi)) | ((with_reducible refine gate_dst (N := 7) rfl ?_); (try (refine gate_guard (by rfl) ?_; dsimp only)); refine Kd.R_lit (Kd.int .i64) _ 3 ?hg (N := 7) ?hd (xs := ([0, 8, 9, 10, 12, 13, 31, 32, 34, 47, 92, 127, 233, 8232, 55296, 56320, 65535] : List Int)) (inner := [.int .i64 0, .int .i64 8, .int .i64 9, .int .i64 10, .int .i64 12, .int .i64 13, .int .i64 31, .int .i64 32, .int .i64 34, .int .i64 47, .int .i64 92, .int .i64 127, .int .i64 233, .int .i64 8232, .int .i64 55296, .int .i64 56320, .int .i64 65535]) (ok := fun _ => True) (okp := fun _ => True) ?hr ?hp (fun _ hk => hk) trivial (Below.refl _ _) (Nat.le_refl _) (by simp) ?_; (case hd => rfl); (case hg => rfl); (case hr => first | (go_simp; done) | (go_simp; rfl)); (case hp => exact (Reps.one (show Kd.M (Kd.int .i64) _ _ _ 0 [.int .i64 0] from rfl) (Reps.one (show Kd.M (Kd.int .i64) _ _ _ 8 [.int .i64 8] from rfl) (Reps.one (show Kd.M (Kd.int .i64) _ _ _ 9 [.int .i64 9] from rfl) (Reps.one (show Kd.M (Kd.int .i64) _ _ _ 10 [.int .i64 10] from rfl) (Reps.one (show Kd.M (Kd.int .i64) _ _ _ 12 [.int .i64 12] from rfl) (Reps.one (show Kd.M (Kd.int .i64) _ _ _ 13 [.int .i64 13] from rfl) (Reps.one (show Kd.M (Kd.int .i64) _ _ _ 31 [.int .i64 31] from rfl) (Reps.one (show Kd.M (Kd.int .i64) _ _ _ 32 [.int .i64 32] from rfl) (Reps.one (show Kd.M (Kd.int .i64) _ _ _ 34 [.int .i64 34] from rfl) (Reps.one (show Kd.M (Kd.int .i64) _ _ _ 47 [.int .i64 47] from rfl) (Reps.one (show Kd.M (Kd.int .i64) _ _ _ 92 [.int .i64 92] from rfl) (Reps.one (show Kd.M (Kd.int .i64) _ _ _ 127 [.int .i64 127] from rfl) (Reps.one (show Kd.M (Kd.int .i64) _ _ _ 233 [.int .i64 233] from rfl) (Reps.one (show Kd.M (Kd.int .i64) _ _ _ 8232 [.int .i64 8232] from rfl) (Reps.one (show Kd.M (Kd.int .i64) _ _ _ 55296 [.int .i64 55296] from rfl) (Reps.one (show Kd.M (Kd.int .i64) _ _ _ 56320 [.int .i64 56320] from rfl) (Reps.one (show Kd.M (Kd.int .i64) _ _ _ 65535 [.int .i64 65535] from rfl) (Reps.none _ _))))))))))))))))))); intro v367 w24 ho25 hb hg_ hnew_; clear hg_ hnew_; (first | rw [← Ny366.out] at ho25 | (simp only [Int.reduceToNat] at ho25; rw [← Ny366.out] at ho25)); have n0_ := Aside0.mk (Kd.R_lower ho25 (below_size (by repeat (first | (with_reducible first | exact HB.out | apply below_alloc | apply pw_below_drewN | apply below_drew1) | exact HB.out)))); have n1_ := Aside0.mk (below_step (by repeat (first | (with_reducible first | exact HB.out | apply below_alloc | apply pw_below_drewN | apply below_drew1) | exact HB.out)) hb); clear HB; have HO368 := n0_; have HB := n1_; clear n0_ n1_; clear hb ho25) | ((with_reducible refine gate_dst (N := 8) rfl ?_); (try (refine gate_guard (by rfl) ?_; dsimp only)); refine Kd.R_lit Kd.string _ 9 ?hg (N := 8) ?hd (xs := ([(⟨#[92, 117, 48, 48, 48, 48]⟩ : ByteArray), (⟨#[92, 98]⟩ : ByteArray), (⟨#[92, 116]⟩ : ByteArray), (⟨#[92, 110]⟩ : ByteArray), (⟨#[92, 102]⟩ : ByteArray), (⟨#[92, 114]⟩ : ByteArray), (⟨#[92, 117, 48, 48, 49, 102]⟩ : ByteArray), (⟨#[32]⟩ : ByteArray), (⟨#[92, 34]⟩ : ByteArray), (⟨#[47]⟩ : ByteArray), (⟨#[92, 92]⟩ : ByteArray), (⟨#[127]⟩ : ByteArray), (⟨#[195, 169]⟩ : ByteArray), (⟨#[226, 128, 168]⟩ : ByteArray), (⟨#[92, 117, 100, 56, 48, 48]⟩ : ByteArray), (⟨#[92, 117, 100, 99, 48, 48]⟩ : ByteArray), (⟨#[239, 191, 191]⟩ : ByteArray)] : List ByteArray)) (inner := [.string (⟨#[92, 117, 48, 48, 48, 48]⟩ : ByteArray), .string (⟨#[92, 98]⟩ : ByteArray), .string (⟨#[92, 116]⟩ : ByteArray), .string (⟨#[92, 110]⟩ : ByteArray), .string (⟨#[92, 102]⟩ : ByteArray), .string (⟨#[92, 114]⟩ : ByteArray), .string (⟨#[92, 117, 48, 48, 49, 102]⟩ : ByteArray), .string (⟨#[32]⟩ : ByteArray), .string (⟨#[92, 34]⟩ : ByteArray), .string (⟨#[47]⟩ : ByteArray), .string (⟨#[92, 92]⟩ : ByteArray), .string (⟨#[127]⟩ : ByteArray), .string (⟨#[195, 169]⟩ : ByteArray), .string (⟨#[226, 128, 168]⟩ : ByteArray), .string (⟨#[92, 117, 100, 56, 48, 48]⟩ : ByteArray), .string (⟨#[92, 117, 100, 99, 48, 48]⟩ : ByteArray), .string (⟨#[239, 191, 191]⟩ : ByteArray)]) (ok := fun _ => True) (okp := fun _ => True) ?hr ?hp (fun _ hk => hk) trivial (Below.refl _ _) (Nat.le_refl _) (by simp) ?_; (case hd => rfl); (case hg => rfl); (case hr => first | (go_simp; done) | (go_simp; rfl)); (case hp => exact (Reps.one (show Kd.M Kd.string _ _ _ (⟨#[92, 117, 48, 48, 48, 48]⟩ : ByteArray) [.string (⟨#[92, 117, 48, 48, 48, 48]⟩ : ByteArray)] from rfl) (Reps.one (show Kd.M Kd.string _ _ _ (⟨#[92, 98]⟩ : ByteArray) [.string (⟨#[92, 98]⟩ : ByteArray)] from rfl) (Reps.one (show Kd.M Kd.string _ _ _ (⟨#[92, 116]⟩ : ByteArray) [.string (⟨#[92, 116]⟩ : ByteArray)] from rfl) (Reps.one (show Kd.M Kd.string _ _ _ (⟨#[92, 110]⟩ : ByteArray) [.string (⟨#[92, 110]⟩ : ByteArray)] from rfl) (Reps.one (show Kd.M Kd.string _ _ _ (⟨#[92, 102]⟩ : ByteArray) [.string (⟨#[92, 102]⟩ : ByteArray)] from rfl) (Reps.one (show Kd.M Kd.string _ _ _ (⟨#[92, 114]⟩ : ByteArray) [.string (⟨#[92, 114]⟩ : ByteArray)] from rfl) (Reps.one (show Kd.M Kd.string _ _ _ (⟨#[92, 117, 48, 48, 49, 102]⟩ : ByteArray) [.string (⟨#[92, 117, 48, 48, 49, 102]⟩ : ByteArray)] from rfl) (Reps.one (show Kd.M Kd.string _ _ _ (⟨#[32]⟩ : ByteArray) [.string (⟨#[32]⟩ : ByteArray)] from rfl) (Reps.one (show Kd.M Kd.string _ _ _ (⟨#[92, 34]⟩ : ByteArray) [.string (⟨#[92, 34]⟩ : ByteArray)] from rfl) (Reps.one (show Kd.M Kd.string _ _ _ (⟨#[47]⟩ : ByteArray) [.string (⟨#[47]⟩ : ByteArray)] from rfl) (Reps.one (show Kd.M Kd.string _ _ _ (⟨#[92, 92]⟩ : ByteArray) [.string (⟨#[92, 92]⟩ : ByteArray)] from rfl) (Reps.one (show Kd.M Kd.string _ _ _ (⟨#[127]⟩ : ByteArray) [.string (⟨#[127]⟩ : ByteArray)] from rfl) (Reps.one (show Kd.M Kd.string _ _ _ (⟨#[195, 169]⟩ : ByteArray) [.string (⟨#[195, 169]⟩ : ByteArray)] from rfl) (Reps.one (show Kd.M Kd.string _ _ _ (⟨#[226, 128, 168]⟩ : ByteArray) [.string (⟨#[226, 128, 168]⟩ : ByteArray)] from rfl) (Reps.one (show Kd.M Kd.string _ _ _ (⟨#[92, 117, 100, 56, 48, 48]⟩ : ByteArray) [.string (⟨#[92, 117, 100, 56, 48, 48]⟩ : ByteArray)] from rfl) (Reps.one (show Kd.M Kd.string _ _ _ (⟨#[92, 117, 100, 99, 48, 48]⟩ : ByteArray) [.string (⟨#[92, 117, 100, 99, 48, 48]⟩ : ByteArray)] from rfl) (Reps.one (show Kd.M Kd.string _ _ _ (⟨#[239, 191, 191]⟩ : ByteArray) [.string (⟨#[239, 191, 191]⟩ : ByteArray)] from rfl) (Reps.none _ _))))))))))))))))))); intro v370 w26 ho27 hb hg_ hnew_; clear hg_ hnew_; (first | rw [← Ny369.out] at ho27 | (simp only [Int.reduceToNat] at ho27; rw [← Ny369.out] at ho27)); have n0_ := Aside0.mk (Kd.R_below (by (with_reducible repeat (first | apply Kd.R_alloc | apply Kd.R_drewN | apply Kd.R_drew)); exact HO368.out) hb); have n1_ := Aside0.mk (Kd.R_lower ho27 (below_size (by repeat (first | (with_reducible first | exact HB.out | apply below_alloc | apply pw_below_drewN | apply below_drew1) | exact HB.out)))); have n2_ := Aside0.mk (below_step (by repeat (first | (with_reducible first | exact HB.out | apply below_alloc | apply pw_below_drewN | apply below_drew1) | exact HB.out)) hb); clear HO368; clear HB; have HO368 := n0_; have HO371 := n1_; have HB := n2_; clear n0_ n1_ n2_; clear hb ho27; obtain ⟨Ao28, co28, eo28⟩ := Kd.R_slice HO368.out; subst eo28))
                  have n0_ := Aside0.mk (Kd.R_drew HO368.out)
                  have n1_ := Aside0.mk (Kd.R_drew HO371.out)
                  have n2_ := Aside0.mk (below_drew1 HB.out)
                  clear HO368
                  clear HO371
                  clear HB
                  have HO368 := n0_
                  have HO371 := n1_
                  have HB := n2_
                  clear n0_ n1_ n2_
                  have p372 : 0 ≤ (a0 : Int) := of_decide_eq_true (by first | (with_reducible assumption) | assumption)
                  have q372 : a0 < (y366.length : Int) := of_decide_eq_true (by first | (with_reducible assumption) | assumption)
                  obtain ⟨ad372, e372, hx372_0⟩ := Kd.at_int (Kd.R_reads' HO368.out).2.2 a0 p372 q372
                  cases e372
                  replace p372 := eq_true p372
                  replace q372 := eq_true q372
                  obtain ⟨Ao30, co30, eo30⟩ := Kd.R_slice HO371.out
                  (first | subst eo30 | (injection eo30 with f1_ f2_ f3_; have f4_ := f1_.symm; have f5_ := f3_.symm; clear f1_ f2_ f3_; subst f4_; subst f5_))
                  have p377 : 0 ≤ (a0 : Int) := of_decide_eq_true (by first | (with_reducible assumption) | assumption)
                  have q377 : a0 < (y369.length : Int) := of_decide_eq_true (by first | (with_reducible assumption) | assumption)
                  obtain ⟨ad377, e377, hx377_0⟩ := Kd.at_string (Kd.R_reads' HO371.out).2.2 a0 p377 q377
                  cases e377
                  replace p377 := eq_true p377
                  replace q377 := eq_true q377
                  refine start_ (n := 14) (S := fun w' => w'.cell? (ad372.add (a0).toNat) = some (.int .i64 (rd y366 a0)) ∧ w'.cell? (ad377.add (a0).toNat) = some (.string (rdOf ByteArray.empty y369 a0))) (ds := []) #[false, false, false, false, false, false, false, false, false, false, false, false, false, false] (by kernel_rfl) rfl rfl ⟨hx372_0, hx377_0⟩ (fun hHeld => ?_); refine with_tabW abridgerlaw8_JstringEach.tab6 abridgerlaw8_JstringEach.bits6 (fun HT_ HW_ => ?_)
                  generalize w26.drew = w29 at HO368 HO371 HB hx372_0 hx377_0 hHeld ⊢
                  refine pure_ (i := 0) (N := some 22) (v := ?_) (a' := ?_) #[true, false, false, false, false, false, false, false, false, false, false, false, false, false] rfl rfl (any_of HT_.out (by kernel_rfl)) (fun _ _ _ h => h) (Or.inl ⟨by rfl, ?_⟩) ?_ ?_
                  rotate_left
                  · intro w'
                    go_simp
                    with_reducible rfl
                  rotate_left
                  · simp only [Act.put, List.setIfInBounds_toArray, List.set_cons_zero, List.set_cons_succ, i64_w, i32_w]
                    rfl
                  refine pure_ (i := 1) (N := some 23) (v := ?_) (a' := ?_) #[true, true, false, false, false, false, false, false, false, false, false, false, false, false] rfl rfl (any_of HT_.out (by kernel_rfl)) (fun _ _ _ h => h) (Or.inl ⟨by rfl, ?_⟩) ?_ ?_
                  rotate_left
                  · intro w'
                    go_simp
                    with_reducible rfl
                  rotate_left
                  · simp only [Act.put, List.setIfInBounds_toArray, List.set_cons_zero, List.set_cons_succ, i64_w, i32_w]
                    rfl
                  refine pure_ (i := 2) (N := some 24) (v := ?_) (a' := ?_) #[true, true, true, false, false, false, false, false, false, false, false, false, false, false] rfl rfl (any_of HT_.out (by kernel_rfl)) (fun _ _ _ h => h) (Or.inl ⟨by rfl, ?_⟩) ?_ ?_
                  rotate_left
                  · intro w'
                    go_simp
                    with_reducible rfl
                  rotate_left
                  · simp only [Act.put, List.setIfInBounds_toArray, List.set_cons_zero, List.set_cons_succ, i64_w, i32_w]
                    rfl
                  refine pure_ (i := 6) (N := some 28) (v := ?_) (a' := ?_) #[true, true, true, false, false, false, true, false, false, false, false, false, false, false] rfl rfl (any_of HT_.out (by kernel_rfl)) (fun _ _ _ h => h) (Or.inl ⟨by rfl, ?_⟩) ?_ ?_
                  rotate_left
                  · intro w'
                    go_simp
                    with_reducible rfl
                  rotate_left
                  · simp only [Act.put, List.setIfInBounds_toArray, List.set_cons_zero, List.set_cons_succ, i64_w, i32_w]
                    rfl
                  refine pure_ (i := 7) (N := some 29) (v := ?_) (a' := ?_) #[true, true, true, false, false, false, true, true, false, false, false, false, false, false] rfl rfl (any_of HT_.out (by kernel_rfl)) (fun _ _ _ h => h) (Or.inl ⟨by rfl, ?_⟩) ?_ ?_
                  rotate_left
                  · intro w'
                    go_simp
                    with_reducible rfl
                  rotate_left
                  · simp only [Act.put, List.setIfInBounds_toArray, List.set_cons_zero, List.set_cons_succ, i64_w, i32_w]
                    rfl
                  refine pure_ (i := 8) (N := some 30) (v := ?_) (a' := ?_) #[true, true, true, false, false, false, true, true, true, false, false, false, false, false] rfl rfl (any_of HT_.out (by kernel_rfl)) (fun _ _ _ h => h) (Or.inl ⟨by rfl, ?_⟩) ?_ ?_
                  rotate_left
                  · intro w'
                    go_simp
                    with_reducible rfl
                  rotate_left
                  · simp only [Act.put, List.setIfInBounds_toArray, List.set_cons_zero, List.set_cons_succ, i64_w, i32_w]
                    rfl
                  refine take_ (i := 3) (N := some 25) (v := ?_) (a' := ?_) #[true, true, true, true, false, false, true, true, true, false, false, false, false, false] rfl rfl (take_ofW HT_.out HW_.out (by kernel_rfl)) (fun _ _ _ h => h) (Or.inl ⟨by rfl, ?_⟩) hHeld ?_ ?_
                  rotate_left
                  · rintro w' ⟨s0, s1⟩
                    go_simp
                    with_reducible rfl
                  rotate_left
                  · simp only [Act.put, List.setIfInBounds_toArray, List.set_cons_zero, List.set_cons_succ, i64_w, i32_w]
                    rfl
                  refine take_ (i := 9) (N := some 31) (v := ?_) (a' := ?_) #[true, true, true, true, false, false, true, true, true, true, false, false, false, false] rfl rfl (take_ofW HT_.out HW_.out (by kernel_rfl)) (fun _ _ _ h => h) (Or.inl ⟨by rfl, ?_⟩) hHeld ?_ ?_
                  rotate_left
                  · rintro w' ⟨s0, s1⟩
                    go_simp
                    with_reducible rfl
                  rotate_left
                  · simp only [Act.put, List.setIfInBounds_toArray, List.set_cons_zero, List.set_cons_succ, i64_w, i32_w]
                    rfl
                  refine pure_ (i := 10) (N := some 32) (v := ?_) (a' := ?_) #[true, true, true, true, false, false, true, true, true, true, true, false, false, false] rfl rfl (any_of HT_.out (by kernel_rfl)) (fun _ _ _ h => h) (Or.inl ⟨by rfl, ?_⟩) ?_ ?_
                  rotate_left
                  · intro w'
                    go_simp
                    with_reducible rfl
                  rotate_left
                  · simp only [Act.put, List.setIfInBounds_toArray, List.set_cons_zero, List.set_cons_succ, i64_w, i32_w]
                    rfl
                  refine pure_ (i := 11) (N := some 33) (v := ?_) (a' := ?_) #[true, true, true, true, false, false, true, true, true, true, true, true, false, false] rfl rfl (any_of HT_.out (by kernel_rfl)) (fun _ _ _ h => h) (Or.inl ⟨by rfl, ?_⟩) ?_ ?_
                  rotate_left
                  · intro w'
                    go_simp
                    with_reducible rfl
                  rotate_left
                  · simp only [Act.put, List.setIfInBounds_toArray, List.set_cons_zero, List.set_cons_succ, i64_w, i32_w]
                    rfl
                  refine one_ (i := 4) (N := some 26) #[true, true, true, true, true, false, true, true, true, true, true, true, false, false] rfl rfl (one_of HT_.out (by kernel_rfl)) (by decide) (fun K hK => ?_)
                  refine Kd.R_lit_step (Kd.int .i64) _ 3 ?hg (N := 26) ?hd (xs := ([rd y366 a0] : List Int)) (inner := [.int .i64 (rd y366 a0)]) (ok := fun _ => True) (okp := fun _ => True) ?hr ?hp (fun _ hk => hk) trivial (Below.refl _ _) (Nat.le_refl _) (by simp) ?_; (case hd => rfl); (case hg => rfl); (case hr => first | (go_simp; done) | (go_simp; rfl)); (case hp => exact (Reps.one (show Kd.M (Kd.int .i64) _ _ _ (rd y366 a0) [.int .i64 (rd y366 a0)] from rfl) (Reps.none _ _)))
                  intro v374 w31 ho32 hb hg_ hnew_
                  have HS0_ := (hb.cell (World.block_lt_of_cell? _ _ (hHeld.1))).trans (hHeld.1)
                  have HS1_ := (hb.cell (World.block_lt_of_cell? _ _ (hHeld.2))).trans (hHeld.2)
                  clear hg_ hnew_
                  (first | rw [← Ny373.out] at ho32 | (simp only [Int.reduceToNat] at ho32; rw [← Ny373.out] at ho32))
                  have n0_ := Aside0.mk (Kd.R_elder' (by (with_reducible repeat (first | apply Kd.R_alloc | apply Kd.R_drewN | apply Kd.R_drew)); exact HO368.out) (Kd.R_base ho32) hb)
                  have n1_ := Aside0.mk (Kd.R_below (by (with_reducible repeat (first | apply Kd.R_alloc | apply Kd.R_drewN | apply Kd.R_drew)); exact HO371.out) hb)
                  have n2_ := Aside0.mk (Kd.R_lower (Kd.R_new' ho32 (Kd.R_lt (by (with_reducible repeat (first | apply Kd.R_alloc | apply Kd.R_drewN | apply Kd.R_drew)); exact HO368.out))) (below_size (by repeat (first | (with_reducible first | exact HB.out | apply below_alloc | apply pw_below_drewN | apply below_drew1) | exact HB.out))))
                  have n3_ := Aside0.mk (below_step (by repeat (first | (with_reducible first | exact HB.out | apply below_alloc | apply pw_below_drewN | apply below_drew1) | exact HB.out)) hb)
                  clear HO368
                  clear HO371
                  clear HB
                  have HO368 := n0_
                  have HO371 := n1_
                  have HO375 := n2_
                  have HB := n3_
                  clear n0_ n1_ n2_ n3_
                  clear hb ho32
                  obtain ⟨Ao33, co33, eo33⟩ := Kd.R_slice HO375.out
                  (first | subst eo33 | (injection eo33 with f1_ f2_ f3_; have f4_ := f1_.symm; have f5_ := f3_.symm; clear f1_ f2_ f3_; subst f4_; subst f5_))
                  refine hK.out _ _ ⟨HS0_, HS1_⟩ (fun hHeld => ?_)
                  clear hK K
                  refine norm_ (a' := ?_) ?_ ?_
                  rotate_left
                  · show Act.put _ (some 26) _ = _
                    simp only [Act.put, List.setIfInBounds_toArray, List.set_cons_zero, List.set_cons_succ, i64_w, i32_w]
                    rfl
                  refine one_ (i := 5) (N := some 27) #[true, true, true, true, true, true, true, true, true, true, true, true, false, false] rfl rfl (one_of HT_.out (by kernel_rfl)) (by decide) (fun K hK => ?_)
                  refine goes_ Try.func11 (by kernel_rfl) rfl #[.slice Ao33 y373.length co33] (by rfl) rfl rfl (by (try simp only [List.map_toArray, List.map_cons, List.map_nil]); first | done | rfl | (simp only [List.length_drop, List.length_take]; rfl)) ?_
                  with_reducible refine (jstring_Spell.calls k _ _ y373 t376 _ ?side1 ?side2 A19.out).mono ?_
                  (case side1 => repeat (first | exact (Kd.R_reads' HO375.out).2.2 | (with_reducible refine Kd.C_alloc ?_ _) | (with_reducible refine Kd.C_drewN ?_ _) | (with_reducible refine Kd.C_drew ?_)))
                  (case side2 => exact (Kd.R_reads' HO375.out).2.1)
                  rintro e w34 ⟨rfl, hb⟩
                  have HS0_ := (hb.cell (World.block_lt_of_cell? _ _ (hHeld.1))).trans (hHeld.1)
                  have HS1_ := (hb.cell (World.block_lt_of_cell? _ _ (hHeld.2))).trans (hHeld.2)
                  refine ⟨_, rfl, ?_⟩
                  have n0_ := Aside0.mk (Kd.R_below (by (with_reducible repeat (first | apply Kd.R_alloc | apply Kd.R_drewN | apply Kd.R_drew)); exact HO368.out) hb)
                  have n1_ := Aside0.mk (Kd.R_below (by (with_reducible repeat (first | apply Kd.R_alloc | apply Kd.R_drewN | apply Kd.R_drew)); exact HO371.out) hb)
                  have n2_ := Aside0.mk (Kd.R_below (by (with_reducible repeat (first | apply Kd.R_alloc | apply Kd.R_drewN | apply Kd.R_drew)); exact HO375.out) hb)
                  have n3_ := Aside0.mk (below_step (by repeat (first | (with_reducible first | exact HB.out | apply below_alloc | apply pw_below_drewN | apply below_drew1) | exact HB.out)) hb)
                  clear HO368
                  clear HO371
                  clear HO375
                  clear HB
                  have HO368 := n0_
                  have HO371 := n1_
                  have HO375 := n2_
                  have HB := n3_
                  clear n0_ n1_ n2_ n3_
                  (try clear hb)
                  (try clear hb2)
                  (try clear hk)
                  (try clear hi)
                  refine hK.out _ _ ⟨HS0_, HS1_⟩ (fun hHeld => ?_)
                  clear hK K
                  refine norm_ (a' := ?_) ?_ ?_
                  rotate_left
                  · show Act.put _ (some 27) _ = _
                    simp only [Act.put, List.setIfInBounds_toArray, List.set_cons_zero, List.set_cons_succ, i64_w, i32_w]
                    rfl
                  refine pure_ (i := 12) (N := some 34) (v := ?_) (a' := ?_) #[true, true, true, true, true, true, true, true, true, true, true, true, true, false] rfl rfl (any_of HT_.out (by kernel_rfl)) (fun _ _ _ h => h) (Or.inl ⟨by rfl, ?_⟩) ?_ ?_
                  rotate_left
                  · intro w'
                    go_simp
                    with_reducible rfl
                  rotate_left
                  · simp only [Act.put, List.setIfInBounds_toArray, List.set_cons_zero, List.set_cons_succ, i64_w, i32_w]
                    rfl
                  refine pure_ (i := 13) (N := some 2) (v := ?_) (a' := ?_) #[true, true, true, true, true, true, true, true, true, true, true, true, true, true] rfl rfl (any_of HT_.out (by kernel_rfl)) (fun _ _ _ h => h) (Or.inl ⟨by rfl, ?_⟩) ?_ ?_
                  rotate_left
                  · intro w'
                    go_simp
                    with_reducible rfl
                  rotate_left
                  · simp only [Act.put, List.setIfInBounds_toArray, List.set_cons_zero, List.set_cons_succ, i64_w, i32_w]
                    rfl
                  refine done_ (done_of HT_.out (by kernel_rfl)) ?_
                  try go_wp2
                  go_ret
                  exact ⟨by first | rfl | (simp [errW_none, errW_some] <;> rfl) | (simp [*, errW_none, errW_some] <;> rfl), by repeat (first | (with_reducible first | exact HB.out | apply below_alloc | apply pw_below_drewN | apply below_drew1) | exact HB.out)⟩
                · rw [if_neg c22] at H
                  exact absurd H (by simp)
              · rw [if_neg c21] at H
                exact absurd H (by simp)
            · rw [if_neg c20] at H
              exact absurd H (by simp)
          · rw [if_neg c18] at H
            exact absurd H (by simp)
        · rw [if_neg c17] at H
          exact absurd H (by simp)
  · replace c3 := Bool.eq_false_iff.mpr c3
    subst c3
    have H1 : (some false) = some r := by rw [if_neg (show ¬ (false = true) by decide)] at H; exact H
    clear H
    have H := H1
    clear H1
    obtain rfl := Option.some.inj H
    go_enter Try.func7, Try.ntmps7
    go_wp2_with (first | ((with_reducible refine gate_callee (f := 8) rfl ?_); refine goesL_ (some 6) rfl rfl Try.func8 (by kernel_rfl) rfl #[] rfl (by (try simp only [List.map_toArray, List.map_cons, List.map_nil]); first | done | rfl | (simp only [List.length_drop, List.length_take]; rfl)) ?_; (with_reducible refine (abridgerlaw8_alive.calls k  false _ A2.out).mono ?_); rintro e w35 ⟨rfl, hb⟩; refine ⟨_, rfl, ?_⟩; have n0_ := Aside0.mk (below_step (by repeat (first | (with_reducible first | exact HB.out | apply below_alloc | apply pw_below_drewN | apply below_drew1) | exact HB.out)) hb); clear HB; have HB := n0_; clear n0_; (try clear hb); (try clear hb2); (try clear hk); (try clear hi)) | ((with_reducible refine gate_dst (N := 7) rfl ?_); (try (refine gate_guard (by rfl) ?_; dsimp only)); refine Kd.R_lit (Kd.int .i64) _ 3 ?hg (N := 7) ?hd (xs := ([0, 8, 9, 10, 12, 13, 31, 32, 34, 47, 92, 127, 233, 8232, 55296, 56320, 65535] : List Int)) (inner := [.int .i64 0, .int .i64 8, .int .i64 9, .int .i64 10, .int .i64 12, .int .i64 13, .int .i64 31, .int .i64 32, .int .i64 34, .int .i64 47, .int .i64 92, .int .i64 127, .int .i64 233, .int .i64 8232, .int .i64 55296, .int .i64 56320, .int .i64 65535]) (ok := fun _ => True) (okp := fun _ => True) ?hr ?hp (fun _ hk => hk) trivial (Below.refl _ _) (Nat.le_refl _) (by simp) ?_; (case hd => rfl); (case hg => rfl); (case hr => first | (go_simp; done) | (go_simp; rfl)); (case hp => exact (Reps.one (show Kd.M (Kd.int .i64) _ _ _ 0 [.int .i64 0] from rfl) (Reps.one (show Kd.M (Kd.int .i64) _ _ _ 8 [.int .i64 8] from rfl) (Reps.one (show Kd.M (Kd.int .i64) _ _ _ 9 [.int .i64 9] from rfl) (Reps.one (show Kd.M (Kd.int .i64) _ _ _ 10 [.int .i64 10] from rfl) (Reps.one (show Kd.M (Kd.int .i64) _ _ _ 12 [.int .i64 12] from rfl) (Reps.one (show Kd.M (Kd.int .i64) _ _ _ 13 [.int .i64 13] from rfl) (Reps.one (show Kd.M (Kd.int .i64) _ _ _ 31 [.int .i64 31] from rfl) (Reps.one (show Kd.M (Kd.int .i64) _ _ _ 32 [.int .i64 32] from rfl) (Reps.one (show Kd.M (Kd.int .i64) _ _ _ 34 [.int .i64 34] from rfl) (Reps.one (show Kd.M (Kd.int .i64) _ _ _ 47 [.int .i64 47] from rfl) (Reps.one (show Kd.M (Kd.int .i64) _ _ _ 92 [.int .i64 92] from rfl) (Reps.one (show Kd.M (Kd.int .i64) _ _ _ 127 [.int .i64 127] from rfl) (Reps.one (show Kd.M (Kd.int .i64) _ _ _ 233 [.int .i64 233] from rfl) (Reps.one (show Kd.M (Kd.int .i64) _ _ _ 8232 [.int .i64 8232] from rfl) (Reps.one (show Kd.M (Kd.int .i64) _ _ _ 55296 [.int .i64 55296] from rfl) (Reps.one (show Kd.M (Kd.int .i64) _ _ _ 56320 [.int .i64 56320] from rfl) (Reps.one (show Kd.M (Kd.int .i64) _ _ _ 65535 [.int .i64 65535] from rfl) (Reps.none _ _))))))))))))))))))); intro v367 w36 ho37 hb hg_ hnew_; clear hg_ hnew_; (first | rw [← Ny366.out] at ho37 | (simp only [Int.reduceToNat] at ho37; rw [← Ny366.out] at ho37)); have n0_ := Aside0.mk (Kd.R_lower ho37 (below_size (by repeat (first | (with_reducible first | exact HB.out | apply below_alloc | apply pw_below_drewN | apply below_drew1) | exact HB.out)))); have n1_ := Aside0.mk (below_step (by repeat (first | (with_reducible first | exact HB.out | apply below_alloc | apply pw_below_drewN | apply below_drew1) | exact HB.out)) hb); clear HB; have HO368 := n0_; have HB := n1_; clear n0_ n1_; clear hb ho37) | ((with_reducible refine gate_dst (N := 8) rfl ?_); (try (refine gate_guard (by rfl) ?_; dsimp only)); refine Kd.R_lit Kd.string _ 9 ?hg (N := 8) ?hd (xs := ([(⟨#[92, 117, 48, 48, 48, 48]⟩ : ByteArray), (⟨#[92, 98]⟩ : ByteArray), (⟨#[92, 116]⟩ : ByteArray), (⟨#[92, 110]⟩ : ByteArray), (⟨#[92, 102]⟩ : ByteArray), (⟨#[92, 114]⟩ : ByteArray), (⟨#[92, 117, 48, 48, 49, 102]⟩ : ByteArray), (⟨#[32]⟩ : ByteArray), (⟨#[92, 34]⟩ : ByteArray), (⟨#[47]⟩ : ByteArray), (⟨#[92, 92]⟩ : ByteArray), (⟨#[127]⟩ : ByteArray), (⟨#[195, 169]⟩ : ByteArray), (⟨#[226, 128, 168]⟩ : ByteArray), (⟨#[92, 117, 100, 56, 48, 48]⟩ : ByteArray), (⟨#[92, 117, 100, 99, 48, 48]⟩ : ByteArray), (⟨#[239, 191, 191]⟩ : ByteArray)] : List ByteArray)) (inner := [.string (⟨#[92, 117, 48, 48, 48, 48]⟩ : ByteArray), .string (⟨#[92, 98]⟩ : ByteArray), .string (⟨#[92, 116]⟩ : ByteArray), .string (⟨#[92, 110]⟩ : ByteArray), .string (⟨#[92, 102]⟩ : ByteArray), .string (⟨#[92, 114]⟩ : ByteArray), .string (⟨#[92, 117, 48, 48, 49, 102]⟩ : ByteArray), .string (⟨#[32]⟩ : ByteArray), .string (⟨#[92, 34]⟩ : ByteArray), .string (⟨#[47]⟩ : ByteArray), .string (⟨#[92, 92]⟩ : ByteArray), .string (⟨#[127]⟩ : ByteArray), .string (⟨#[195, 169]⟩ : ByteArray), .string (⟨#[226, 128, 168]⟩ : ByteArray), .string (⟨#[92, 117, 100, 56, 48, 48]⟩ : ByteArray), .string (⟨#[92, 117, 100, 99, 48, 48]⟩ : ByteArray), .string (⟨#[239, 191, 191]⟩ : ByteArray)]) (ok := fun _ => True) (okp := fun _ => True) ?hr ?hp (fun _ hk => hk) trivial (Below.refl _ _) (Nat.le_refl _) (by simp) ?_; (case hd => rfl); (case hg => rfl); (case hr => first | (go_simp; done) | (go_simp; rfl)); (case hp => exact (Reps.one (show Kd.M Kd.string _ _ _ (⟨#[92, 117, 48, 48, 48, 48]⟩ : ByteArray) [.string (⟨#[92, 117, 48, 48, 48, 48]⟩ : ByteArray)] from rfl) (Reps.one (show Kd.M Kd.string _ _ _ (⟨#[92, 98]⟩ : ByteArray) [.string (⟨#[92, 98]⟩ : ByteArray)] from rfl) (Reps.one (show Kd.M Kd.string _ _ _ (⟨#[92, 116]⟩ : ByteArray) [.string (⟨#[92, 116]⟩ : ByteArray)] from rfl) (Reps.one (show Kd.M Kd.string _ _ _ (⟨#[92, 110]⟩ : ByteArray) [.string (⟨#[92, 110]⟩ : ByteArray)] from rfl) (Reps.one (show Kd.M Kd.string _ _ _ (⟨#[92, 102]⟩ : ByteArray) [.string (⟨#[92, 102]⟩ : ByteArray)] from rfl) (Reps.one (show Kd.M Kd.string _ _ _ (⟨#[92, 114]⟩ : ByteArray) [.string (⟨#[92, 114]⟩ : ByteArray)] from rfl) (Reps.one (show Kd.M Kd.string _ _ _ (⟨#[92, 117, 48, 48, 49, 102]⟩ : ByteArray) [.string (⟨#[92, 117, 48, 48, 49, 102]⟩ : ByteArray)] from rfl) (Reps.one (show Kd.M Kd.string _ _ _ (⟨#[32]⟩ : ByteArray) [.string (⟨#[32]⟩ : ByteArray)] from rfl) (Reps.one (show Kd.M Kd.string _ _ _ (⟨#[92, 34]⟩ : ByteArray) [.string (⟨#[92, 34]⟩ : ByteArray)] from rfl) (Reps.one (show Kd.M Kd.string _ _ _ (⟨#[47]⟩ : ByteArray) [.string (⟨#[47]⟩ : ByteArray)] from rfl) (Reps.one (show Kd.M Kd.string _ _ _ (⟨#[92, 92]⟩ : ByteArray) [.string (⟨#[92, 92]⟩ : ByteArray)] from rfl) (Reps.one (show Kd.M Kd.string _ _ _ (⟨#[127]⟩ : ByteArray) [.string (⟨#[127]⟩ : ByteArray)] from rfl) (Reps.one (show Kd.M Kd.string _ _ _ (⟨#[195, 169]⟩ : ByteArray) [.string (⟨#[195, 169]⟩ : ByteArray)] from rfl) (Reps.one (show Kd.M Kd.string _ _ _ (⟨#[226, 128, 168]⟩ : ByteArray) [.string (⟨#[226, 128, 168]⟩ : ByteArray)] from rfl) (Reps.one (show Kd.M Kd.string _ _ _ (⟨#[92, 117, 100, 56, 48, 48]⟩ : ByteArray) [.string (⟨#[92, 117, 100, 56, 48, 48]⟩ : ByteArray)] from rfl) (Reps.one (show Kd.M Kd.string _ _ _ (⟨#[92, 117, 100, 99, 48, 48]⟩ : ByteArray) [.string (⟨#[92, 117, 100, 99, 48, 48]⟩ : ByteArray)] from rfl) (Reps.one (show Kd.M Kd.string _ _ _ (⟨#[239, 191, 191]⟩ : ByteArray) [.string (⟨#[239, 191, 191]⟩ : ByteArray)] from rfl) (Reps.none _ _))))))))))))))))))); intro v370 w38 ho39 hb hg_ hnew_; clear hg_ hnew_; (first | rw [← Ny369.out] at ho39 | (simp only [Int.reduceToNat] at ho39; rw [← Ny369.out] at ho39)); have n0_ := Aside0.mk (Kd.R_below (by (with_reducible repeat (first | apply Kd.R_alloc | apply Kd.R_drewN | apply Kd.R_drew)); exact HO368.out) hb); have n1_ := Aside0.mk (Kd.R_lower ho39 (below_size (by repeat (first | (with_reducible first | exact HB.out | apply below_alloc | apply pw_below_drewN | apply below_drew1) | exact HB.out)))); have n2_ := Aside0.mk (below_step (by repeat (first | (with_reducible first | exact HB.out | apply below_alloc | apply pw_below_drewN | apply below_drew1) | exact HB.out)) hb); clear HO368; clear HB; have HO368 := n0_; have HO371 := n1_; have HB := n2_; clear n0_ n1_ n2_; clear hb ho39))
    go_ret
    exact ⟨by first | rfl | (simp [errW_none, errW_some] <;> rfl) | (simp [*, errW_none, errW_some] <;> rfl), by repeat (first | (with_reducible first | exact HB.out | apply below_alloc | apply pw_below_drewN | apply below_drew1) | exact HB.out)⟩

/-- THE ONE PURE STATEMENT of abridgerlaw8_JstringEach: yours. -/
def abridgerlaw8_JstringEach.Pure : Prop := ∀ (a0 : Int), (Lit.int .i64 a0).wf = true → ∃ k, abridgerlaw8_JstringEach.f k a0 = some true
theorem abridgerlaw8_JstringEach.walk (P : abridgerlaw8_JstringEach.Pure) (a0 : Int) (w : World) (w0 : (Lit.int .i64 a0).wf = true) :
    Calls Try.prog 7 #[.int .i64 a0] w fun e w' => e = .returned (.bool true) ∧ Below w.heap.size w w' := by
  obtain ⟨k, h⟩ := P a0 w0
  refine (abridgerlaw8_JstringEach.calls k a0 true w h).mono ?_
  rintro e w' ⟨rfl, hd⟩
  exact ⟨rfl, hd⟩

end Go.Proofs.Ytcioifijkonplaa.Q
