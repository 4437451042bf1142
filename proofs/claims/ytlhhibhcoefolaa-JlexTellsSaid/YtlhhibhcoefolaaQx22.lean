-- Written by a program of this session (wip/tools/print2.sh), out of the translation, for this claim. Lean checks it.
import Derived.Test.YtlhhibhcoefolaaQx0
import Derived.Test.YtlhhibhcoefolaaQx16
import Derived.Test.YtlhhibhcoefolaaQx17
import Derived.Test.YtlhhibhcoefolaaQx19
import Derived.Test.YtlhhibhcoefolaaQx21
-- SQUEEZED
namespace Go.Proofs.Ytlhhibhcoefolaa.Q
open Go.RowKit Go.Proofs.YtlhhibhcoefolaaW.PrintWords Go.Proofs.YtlhhibhcoefolaaW.PrintLast Go.Proofs.YtlhhibhcoefolaaW.PrintMore
attribute [local go_sem] max2_int min2_int max_two min_two max_three min_three max_four min_four   -- for this text's walks alone
set_option linter.unusedVariables false
set_option linter.unusedSimpArgs false

/-! ### abridgerref1_Jlex: function 10 -/
mutual
def abridgerref1_Jlex.l0 : Nat → List Int → List (S31) → ByteArray → List ByteArray → Int → Option ((List (S31)) × Int × Int)
 | 0, _, _, _, _, _ => none
 | k + 1, x0, x6, x7, x8, x9 => if x9 < (x0.length : Int) then (if 0 ≤ x9 then ((abridgerref1_blank.f (rd x0 x9)).bind fun t225 => (if t225 = true then (abridgerref1_Jlex.l0 k x0 x6 x7 x8 (wrap64 (x9 + 1))) else (abridgerref1_Jlex.l1 k x0 x6 x7 x8 x9 0 0 x9 (-1)))) else (none)) else (some (x6, 0, 0))
def abridgerref1_Jlex.l1 : Nat → List Int → List (S31) → ByteArray → List ByteArray → Int → Int → Int → Int → Int → Option ((List (S31)) × Int × Int)
 | 0, _, _, _, _, _, _, _, _, _ => none
 | k + 1, x0, x6, x7, x8, x9, x11, x227000, x227001, x227002 => if x11 < (x7.size : Int) then (if 0 ≤ x11 then (if 0 ≤ x9 then (if x9 < (x0.length : Int) then (if (bt x7 x11) = (rd x0 x9) then (abridgerref1_Jlex.l1 k x0 x6 x7 x8 x9 (wrap64 (x11 + 1)) (wrap64 (x11 + 1)) x227001 (wrap64 (x9 + 1))) else (abridgerref1_Jlex.l1 k x0 x6 x7 x8 x9 (wrap64 (x11 + 1)) x227000 x227001 x227002)) else (none)) else (none)) else (none)) else (abridgerref1_Jlex.l2 k x0 x6 x7 x8 x9 0 x227000 x227001 x227002)
def abridgerref1_Jlex.l2 : Nat → List Int → List (S31) → ByteArray → List ByteArray → Int → Int → Int → Int → Int → Option ((List (S31)) × Int × Int)
 | 0, _, _, _, _, _, _, _, _, _ => none
 | k + 1, x0, x6, x7, x8, x9, x12, x227000, x227001, x227002 => if x12 < (x8.length : Int) then (if 0 ≤ x12 then (if (wrap64 (x9 + ((rdOf ByteArray.empty x8 x12).size : Int))) ≤ (x0.length : Int) then (if 0 ≤ x9 then (if x9 ≤ (wrap64 (x9 + ((rdOf ByteArray.empty x8 x12).size : Int))) then (if (strOfNums ((x0.take ((wrap64 (x9 + ((rdOf ByteArray.empty x8 x12).size : Int))) : Int).toNat).drop (x9 : Int).toNat)).toList = (rdOf ByteArray.empty x8 x12).toList then ((abridgerref1_goes.f x0 (wrap64 (x9 + ((rdOf ByteArray.empty x8 x12).size : Int)))).bind fun t234 => (if t234 = true then (abridgerref1_Jlex.l2 k x0 x6 x7 x8 x9 (wrap64 (x12 + 1)) x227000 x227001 x227002) else (abridgerref1_Jlex.l2 k x0 x6 x7 x8 x9 (wrap64 (x12 + 1)) (wrap64 (9 + x12)) x227001 (wrap64 (x9 + ((rdOf ByteArray.empty x8 x12).size : Int)))))) else (abridgerref1_Jlex.l2 k x0 x6 x7 x8 x9 (wrap64 (x12 + 1)) x227000 x227001 x227002)) else (none)) else (none)) else (abridgerref1_Jlex.l2 k x0 x6 x7 x8 x9 (wrap64 (x12 + 1)) x227000 x227001 x227002)) else (none)) else (if 0 ≤ x9 then (if x9 < (x0.length : Int) then (if (rd x0 x9) = 34 then ((abridgerref1_jtext.f k x0 x9).bind fun t236 => (if t236 < 0 then (some (([] : List (S31)), 3, x9)) else (if x6.length < 5864062014805 then (abridgerref1_Jlex.l0 k x0 (x6 ++ [(⟨7, x227001, t236⟩ : S31)]) x7 x8 t236) else (none)))) else (if (rd x0 x9) = 45 then (abridgerref1_Jlex.j3 k x0 x6 x7 x8 x9 true x227000 x227001 x227002) else (if (rd x0 x9) ≥ 48 then (abridgerref1_Jlex.j3 k x0 x6 x7 x8 x9 (decide ((rd x0 x9) ≤ 57)) x227000 x227001 x227002) else (abridgerref1_Jlex.j3 k x0 x6 x7 x8 x9 false x227000 x227001 x227002)))) else (none)) else (none))
def abridgerref1_Jlex.j3 : Nat → List Int → List (S31) → ByteArray → List ByteArray → Int → Bool → Int → Int → Int → Option ((List (S31)) × Int × Int)
 | 0, _, _, _, _, _, _, _, _, _ => none
 | k + 1, x0, x6, x7, x8, x9, x112, x227000, x227001, x227002 => if x112 = true then ((abridgerref1_jnumber.f k x0 x9).bind fun t243 => (if t243 < 0 then (some (([] : List (S31)), 3, x9)) else (if x6.length < 5864062014805 then (abridgerref1_Jlex.l0 k x0 (x6 ++ [(⟨8, x227001, t243⟩ : S31)]) x7 x8 t243) else (none)))) else (if x227002 < 0 then (some (([] : List (S31)), 3, x9)) else (if x6.length < 5864062014805 then (abridgerref1_Jlex.l0 k x0 (x6 ++ [(⟨x227000, x227001, x227002⟩ : S31)]) x7 x8 x227002) else (none)))
end
def abridgerref1_Jlex.f (k : Nat) (l0 : List Int) : Option ((List (S31)) × Int × Int) := if (l0.length : Int) > 20000 then (some (([] : List (S31)), 5, 20000)) else ((abridgerref1_Valid.f k l0).bind fun bt219 => (if bt219.2 = true then (abridgerref1_Jlex.l0 k l0 ([] : List (S31)) (⟨#[123, 125, 91, 93, 58, 44]⟩ : ByteArray) (([(⟨#[116, 114, 117, 101]⟩ : ByteArray), (⟨#[102, 97, 108, 115, 101]⟩ : ByteArray), (⟨#[110, 117, 108, 108]⟩ : ByteArray)] : List ByteArray)) 0) else (some (([] : List (S31)), 2, bt219.1))))
theorem abridgerref1_Jlex.mono_l : ∀ k, (∀ y0 y1 y2 y3 y4, LeO (abridgerref1_Jlex.l0 k y0 y1 y2 y3 y4) (abridgerref1_Jlex.l0 (k + 1) y0 y1 y2 y3 y4)) ∧ (∀ y0 y1 y2 y3 y4 y5 y6 y7 y8, LeO (abridgerref1_Jlex.l1 k y0 y1 y2 y3 y4 y5 y6 y7 y8) (abridgerref1_Jlex.l1 (k + 1) y0 y1 y2 y3 y4 y5 y6 y7 y8)) ∧ (∀ y0 y1 y2 y3 y4 y5 y6 y7 y8, LeO (abridgerref1_Jlex.l2 k y0 y1 y2 y3 y4 y5 y6 y7 y8) (abridgerref1_Jlex.l2 (k + 1) y0 y1 y2 y3 y4 y5 y6 y7 y8)) ∧ (∀ y0 y1 y2 y3 y4 y5 y6 y7 y8, LeO (abridgerref1_Jlex.j3 k y0 y1 y2 y3 y4 y5 y6 y7 y8) (abridgerref1_Jlex.j3 (k + 1) y0 y1 y2 y3 y4 y5 y6 y7 y8))
 | 0 => ⟨fun _ _ _ _ _ r h => by simp [abridgerref1_Jlex.l0] at h, fun _ _ _ _ _ _ _ _ _ r h => by simp [abridgerref1_Jlex.l1] at h, fun _ _ _ _ _ _ _ _ _ r h => by simp [abridgerref1_Jlex.l2] at h, fun _ _ _ _ _ _ _ _ _ r h => by simp [abridgerref1_Jlex.j3] at h⟩
 | k + 1 => by
  obtain ⟨ih0, ih1, ih2, ih3⟩ := abridgerref1_Jlex.mono_l k
  refine ⟨?_, ?_, ?_, ?_⟩
  ·intro y0 y1 y2 y3 y4
   unfold abridgerref1_Jlex.l0
   repeat' first
   | (with_reducible exact ih0 _ _ _ _ _)
   | (with_reducible exact ih1 _ _ _ _ _ _ _ _ _)
   | (with_reducible exact ih2 _ _ _ _ _ _ _ _ _)
   | (with_reducible exact ih3 _ _ _ _ _ _ _ _ _)
   | (with_reducible exact abridgerref1_Valid.mono _ _)
   | (with_reducible exact abridgerref1_jnumber.mono _ _ _)
   | (with_reducible exact abridgerref1_jtext.mono _ _ _)
   | (with_reducible exact LeO.refl _)
   | (with_reducible exact LeO.none _)
   | (with_reducible refine LeO.ite ?_ ?_)
   | (with_reducible refine LeO.bind ?_ (fun _ => ?_))
   | exact ih0 _ _ _ _ _
   | exact ih1 _ _ _ _ _ _ _ _ _
   | exact ih2 _ _ _ _ _ _ _ _ _
   | exact ih3 _ _ _ _ _ _ _ _ _
   | exact abridgerref1_Valid.mono _ _
   | exact abridgerref1_jnumber.mono _ _ _
   | exact abridgerref1_jtext.mono _ _ _
   | exact LeO.none _
   | refine LeO.ite ?_ ?_
   | refine LeO.bind ?_ (fun _ => ?_)
  ·intro y0 y1 y2 y3 y4 y5 y6 y7 y8
   unfold abridgerref1_Jlex.l1
   repeat' first
   | (with_reducible exact ih0 _ _ _ _ _)
   | (with_reducible exact ih1 _ _ _ _ _ _ _ _ _)
   | (with_reducible exact ih2 _ _ _ _ _ _ _ _ _)
   | (with_reducible exact ih3 _ _ _ _ _ _ _ _ _)
   | (with_reducible exact abridgerref1_Valid.mono _ _)
   | (with_reducible exact abridgerref1_jnumber.mono _ _ _)
   | (with_reducible exact abridgerref1_jtext.mono _ _ _)
   | (with_reducible exact LeO.refl _)
   | (with_reducible exact LeO.none _)
   | (with_reducible refine LeO.ite ?_ ?_)
   | (with_reducible refine LeO.bind ?_ (fun _ => ?_))
   | exact ih0 _ _ _ _ _
   | exact ih1 _ _ _ _ _ _ _ _ _
   | exact ih2 _ _ _ _ _ _ _ _ _
   | exact ih3 _ _ _ _ _ _ _ _ _
   | exact abridgerref1_Valid.mono _ _
   | exact abridgerref1_jnumber.mono _ _ _
   | exact abridgerref1_jtext.mono _ _ _
   | exact LeO.none _
   | refine LeO.ite ?_ ?_
   | refine LeO.bind ?_ (fun _ => ?_)
  ·intro y0 y1 y2 y3 y4 y5 y6 y7 y8
   unfold abridgerref1_Jlex.l2
   repeat' first
   | (with_reducible exact ih0 _ _ _ _ _)
   | (with_reducible exact ih1 _ _ _ _ _ _ _ _ _)
   | (with_reducible exact ih2 _ _ _ _ _ _ _ _ _)
   | (with_reducible exact ih3 _ _ _ _ _ _ _ _ _)
   | (with_reducible exact abridgerref1_Valid.mono _ _)
   | (with_reducible exact abridgerref1_jnumber.mono _ _ _)
   | (with_reducible exact abridgerref1_jtext.mono _ _ _)
   | (with_reducible exact LeO.refl _)
   | (with_reducible exact LeO.none _)
   | (with_reducible refine LeO.ite ?_ ?_)
   | (with_reducible refine LeO.bind ?_ (fun _ => ?_))
   | exact ih0 _ _ _ _ _
   | exact ih1 _ _ _ _ _ _ _ _ _
   | exact ih2 _ _ _ _ _ _ _ _ _
   | exact ih3 _ _ _ _ _ _ _ _ _
   | exact abridgerref1_Valid.mono _ _
   | exact abridgerref1_jnumber.mono _ _ _
   | exact abridgerref1_jtext.mono _ _ _
   | exact LeO.none _
   | refine LeO.ite ?_ ?_
   | refine LeO.bind ?_ (fun _ => ?_)
  ·intro y0 y1 y2 y3 y4 y5 y6 y7 y8
   unfold abridgerref1_Jlex.j3
   repeat' first
   | (with_reducible exact ih0 _ _ _ _ _)
   | (with_reducible exact ih1 _ _ _ _ _ _ _ _ _)
   | (with_reducible exact ih2 _ _ _ _ _ _ _ _ _)
   | (with_reducible exact ih3 _ _ _ _ _ _ _ _ _)
   | (with_reducible exact abridgerref1_Valid.mono _ _)
   | (with_reducible exact abridgerref1_jnumber.mono _ _ _)
   | (with_reducible exact abridgerref1_jtext.mono _ _ _)
   | (with_reducible exact LeO.refl _)
   | (with_reducible exact LeO.none _)
   | (with_reducible refine LeO.ite ?_ ?_)
   | (with_reducible refine LeO.bind ?_ (fun _ => ?_))
   | exact ih0 _ _ _ _ _
   | exact ih1 _ _ _ _ _ _ _ _ _
   | exact ih2 _ _ _ _ _ _ _ _ _
   | exact ih3 _ _ _ _ _ _ _ _ _
   | exact abridgerref1_Valid.mono _ _
   | exact abridgerref1_jnumber.mono _ _ _
   | exact abridgerref1_jtext.mono _ _ _
   | exact LeO.none _
   | refine LeO.ite ?_ ?_
   | refine LeO.bind ?_ (fun _ => ?_)
theorem abridgerref1_Jlex.mono : ∀ a0 k, LeO (abridgerref1_Jlex.f k a0) (abridgerref1_Jlex.f (k + 1) a0) := by
 intro a0 k
 obtain ⟨ih0, ih1, ih2, ih3⟩ := abridgerref1_Jlex.mono_l k
 unfold abridgerref1_Jlex.f
 repeat' first
   | (with_reducible exact ih0 _ _ _ _ _)
   | (with_reducible exact ih1 _ _ _ _ _ _ _ _ _)
   | (with_reducible exact ih2 _ _ _ _ _ _ _ _ _)
   | (with_reducible exact ih3 _ _ _ _ _ _ _ _ _)
   | (with_reducible exact abridgerref1_Valid.mono _ _)
   | (with_reducible exact abridgerref1_jnumber.mono _ _ _)
   | (with_reducible exact abridgerref1_jtext.mono _ _ _)
   | (with_reducible exact LeO.refl _)
   | (with_reducible exact LeO.none _)
   | (with_reducible refine LeO.ite ?_ ?_)
   | (with_reducible refine LeO.bind ?_ (fun _ => ?_))
   | exact ih0 _ _ _ _ _
   | exact ih1 _ _ _ _ _ _ _ _ _
   | exact ih2 _ _ _ _ _ _ _ _ _
   | exact ih3 _ _ _ _ _ _ _ _ _
   | exact abridgerref1_Valid.mono _ _
   | exact abridgerref1_jnumber.mono _ _ _
   | exact abridgerref1_jtext.mono _ _ _
   | exact LeO.none _
   | refine LeO.ite ?_ ?_
   | refine LeO.bind ?_ (fun _ => ?_)
set_option maxHeartbeats 8000000 in
set_option maxRecDepth 100000 in
theorem abridgerref1_Jlex.calls (k : Nat) (A0 : Option Addr) (c0 : Nat) (l0 : List Int) (r1 : List (S31)) (r2 : Int) (r3 : Int) (w : World) (hr0 : Kd.C (Kd.int .u8) w A0 l0.length l0) (hc0 : l0.length ≤ c0) (h : abridgerref1_Jlex.f k l0 = some (r1, r2, r3)) :
  Calls Try.prog 10 #[.slice A0 l0.length c0] w fun e w' => ∃ v0_ : Value, e = .returned (.tuple #[v0_, .agg #[.int .i64 r2, .int .i64 r3]]) ∧ Kd.R k31 31 w' w.heap.size (fun _ => True) v0_ r1 ∧ Below w.heap.size w w' := by
 have hu27 := Try.underlying27
 have hu31 := Try.underlying31
 have HR0 := Aside0.mk hr0
 have HC0 := Aside0.mk hc0
 clear hr0 hc0
 have HB := Aside0.mk (Below.refl w.heap.size w)
 have H : (if (l0.length : Int) > 20000 then (some (([] : List (S31)), 5, 20000)) else ((abridgerref1_Valid.f k l0).bind fun bt219 => (if bt219.2 = true then (abridgerref1_Jlex.l0 k l0 ([] : List (S31)) (⟨#[123, 125, 91, 93, 58, 44]⟩ : ByteArray) (([(⟨#[116, 114, 117, 101]⟩ : ByteArray), (⟨#[102, 97, 108, 115, 101]⟩ : ByteArray), (⟨#[110, 117, 108, 108]⟩ : ByteArray)] : List ByteArray)) 0) else (some (([] : List (S31)), 2, bt219.1))))) = some (r1, r2, r3) := h
 clear h
 by_cases c2 : (l0.length : Int) > 20000
 ·rw [if_pos c2] at H
  have c2b0 : decide (20000 < (l0.length : Int)) = true := decide_eq_true c2
  have c2b1 : decide (20000 < l0.length) = true := decide_eq_true (by omega)
  clear c2
  simp only [Option.some.injEq, Prod.mk.injEq] at H
  obtain ⟨rfl, rfl, rfl⟩ := H
  go_enter Try.func10, Try.ntmps10
  go_wp2_with (first | ((with_reducible refine gate_dst (N := 3) rfl ?_); refine box_event ?hg (N := 3) ?hd (cs := #[.int .i64 0, .int .i64 0]) (t := 27) ?hr ?_; (case hd => rfl); (case hg => rfl); (case hr => first | (go_simp; done) | (go_simp; rfl)); intro gb218 hg w3 hbox hb; have n0_ := Aside0.mk (below_step (by repeat (first | (with_reducible first | exact HB.out | apply below_alloc | apply pw_below_drewN | apply below_drew1) | exact HB.out)) hb); have n1_ := Aside0.mk (hbox); have n2_ := Aside0.mk ((by rw [hg]; exact (below_size (by repeat (first | (with_reducible first | exact HB.out | apply below_alloc | apply pw_below_drewN | apply below_drew1) | exact HB.out))) : w.heap.size ≤ gb218)); have n3_ := Aside0.mk ((by rw [hg]; exact (below_size (by repeat (first | (with_reducible first | exact HB.out | apply below_alloc | apply pw_below_drewN | apply below_drew1) | exact HB.out))) : w.heap.size ≤ gb218)); clear HB; have HB := n0_; have BK218 := n1_; have GW218 := n2_; have GE218 := n3_; clear n0_ n1_ n2_ n3_; clear hb hbox hg; have hcz4_0 : w3.cell? ⟨gb218, 0, none⟩ = some (.int .i64 0) := (blk_cell BK218.out 0).trans rfl; have hcz4_1 : w3.cell? ⟨gb218, 1, none⟩ = some (.int .i64 0) := (blk_cell BK218.out 1).trans rfl; have hfz4_0 := blk_frozen BK218.out 0; have hfz4_1 := blk_frozen BK218.out 1))
  repeat (go_quiet (fail); try go_wp2)
  refine bodyPost_ret (results_tc rfl _ _ gb218 27 #[.int .i64 5, .int .i64 20000] (0, 0) _ rfl (by (with_reducible repeat (first | refine blk_drewN ?_ _ | refine blk_drew ?_ | refine blk_alloc ?_ _)); refine blk_put (cs := #[.int .i64 5, .int .i64 0]) ?_ 1 _ rfl; (with_reducible repeat (first | refine blk_drewN ?_ _ | refine blk_drew ?_ | refine blk_alloc ?_ _)); refine blk_put (cs := #[.int .i64 0, .int .i64 0]) ?_ 0 _ rfl; (with_reducible repeat (first | refine blk_drewN ?_ _ | refine blk_drew ?_ | refine blk_alloc ?_ _)); exact BK218.out) Try.underlying27 rfl (by kernel_rfl)) rfl ?_
  exact ⟨_, by first | rfl | (simp [errW_none, errW_some] <;> rfl) | (simp [*, errW_none, errW_some] <;> rfl), by first | exact Kd.R_nil _ _ _ _ _ | exact Kd.N_nil _ _ _ _ _ | exact Kd.V_nil _ _ _ _ _ | exact Kd.Q_nil _ _ _ _ _ | exact Kd.S_nil _ _ _ _ _, by repeat (first | (with_reducible first | exact HB.out | apply below_alloc | apply pw_below_drewN | apply below_drew1 | refine below_set ?_ GE218.out) | exact HB.out)⟩
 ·rw [if_neg c2] at H
  have c2b0 : decide (20000 < (l0.length : Int)) = false := decide_eq_false c2
  have c2b1 : decide (20000 < l0.length) = false := decide_eq_false (by omega)
  clear c2
  replace H := Option.bind_eq_some_iff.mp H
  obtain ⟨⟨t219, t220⟩, A50, H⟩ := H
  replace H : (if t220 = true then (abridgerref1_Jlex.l0 k l0 ([] : List (S31)) (⟨#[123, 125, 91, 93, 58, 44]⟩ : ByteArray) (([(⟨#[116, 114, 117, 101]⟩ : ByteArray), (⟨#[102, 97, 108, 115, 101]⟩ : ByteArray), (⟨#[110, 117, 108, 108]⟩ : ByteArray)] : List ByteArray)) 0) else (some (([] : List (S31)), 2, t219))) = some (r1, r2, r3) := H
  have A5 := Aside0.mk A50
  clear A50
  by_cases c6 : t220 = true
  ·subst c6
   have H1 : (abridgerref1_Jlex.l0 k l0 ([] : List (S31)) (⟨#[123, 125, 91, 93, 58, 44]⟩ : ByteArray) (([(⟨#[116, 114, 117, 101]⟩ : ByteArray), (⟨#[102, 97, 108, 115, 101]⟩ : ByteArray), (⟨#[110, 117, 108, 108]⟩ : ByteArray)] : List ByteArray)) 0) = some (r1, r2, r3) := by rw [if_pos rfl] at H; exact H
   clear H
   have H := H1
   clear H1
   obtain ⟨y221, hy221⟩ : ∃ y_ : List ByteArray, y_ = (([(⟨#[116, 114, 117, 101]⟩ : ByteArray), (⟨#[102, 97, 108, 115, 101]⟩ : ByteArray), (⟨#[110, 117, 108, 108]⟩ : ByteArray)] : List ByteArray)) := ⟨_, rfl⟩
   replace H : (abridgerref1_Jlex.l0 k l0 ([] : List (S31)) (⟨#[123, 125, 91, 93, 58, 44]⟩ : ByteArray) y221 0) = some (r1, r2, r3) := by first | (rw [hy221]; with_reducible exact H) | (have H2_ := (Option.bind_some _ _).symm.trans H; rw [hy221]; with_reducible exact H2_) | (have H2_ := (Option.bind_some _ _).symm.trans H; with_reducible exact H2_) | with_reducible exact H | (rw [hy221]; exact H) | exact H
   have Ny221 := Aside0.mk hy221
   clear hy221
   have H' := Aside0.mk H
   clear H
   go_enter Try.func10, Try.ntmps10
   go_wp2_with (first | ((with_reducible refine gate_dst (N := 3) rfl ?_); refine box_event ?hg (N := 3) ?hd (cs := #[.int .i64 0, .int .i64 0]) (t := 27) ?hr ?_; (case hd => rfl); (case hg => rfl); (case hr => first | (go_simp; done) | (go_simp; rfl)); intro gb218 hg w7 hbox hb; have n0_ := Aside0.mk (below_step (by repeat (first | (with_reducible first | exact HB.out | apply below_alloc | apply pw_below_drewN | apply below_drew1) | exact HB.out)) hb); have n1_ := Aside0.mk (hbox); have n2_ := Aside0.mk ((by rw [hg]; exact (below_size (by repeat (first | (with_reducible first | exact HB.out | apply below_alloc | apply pw_below_drewN | apply below_drew1) | exact HB.out))) : w.heap.size ≤ gb218)); have n3_ := Aside0.mk ((by rw [hg]; exact (below_size (by repeat (first | (with_reducible first | exact HB.out | apply below_alloc | apply pw_below_drewN | apply below_drew1) | exact HB.out))) : w.heap.size ≤ gb218)); clear HB; have HB := n0_; have BK218 := n1_; have GW218 := n2_; have GE218 := n3_; clear n0_ n1_ n2_ n3_; clear hb hbox hg) | (go_at_call 15; (with_reducible refine (abridgerref1_Valid.calls k _ _ l0 t219 true _ ?side1 ?side2 A5.out).mono ?_); (case side1 => repeat (first | exact (Kd.C_below HR0.out HB.out) | (with_reducible refine Kd.C_alloc ?_ _) | (with_reducible refine Kd.C_drewN ?_ _) | (with_reducible refine Kd.C_drew ?_))); (case side2 => exact HC0.out); rintro e w' ⟨rfl, ⟨nd, rfl⟩⟩; (try first | exact ⟨rfl, _, World.drewN_drewN _ _ _⟩ | exact ⟨rfl, _, Eq.trans (World.drewN_drewN _ _ _) (congrArg (World.drewN _) (Nat.add_assoc _ _ _))⟩)) | ((with_reducible refine gate_dst (N := 27) rfl ?_); refine Kd.R_lit Kd.string _ 9 ?hg (N := 27) ?hd (xs := ([(⟨#[116, 114, 117, 101]⟩ : ByteArray), (⟨#[102, 97, 108, 115, 101]⟩ : ByteArray), (⟨#[110, 117, 108, 108]⟩ : ByteArray)] : List ByteArray)) (inner := [.string (⟨#[116, 114, 117, 101]⟩ : ByteArray), .string (⟨#[102, 97, 108, 115, 101]⟩ : ByteArray), .string (⟨#[110, 117, 108, 108]⟩ : ByteArray)]) (ok := fun _ => True) (okp := fun _ => True) ?hr ?hp (fun _ hk => hk) trivial (Below.refl _ _) (Nat.le_refl _) (by simp) ?_; (case hd => rfl); (case hg => rfl); (case hr => first | (go_simp; done) | (go_simp; rfl)); (case hp => exact (Reps.one (show Kd.M Kd.string _ _ _ (⟨#[116, 114, 117, 101]⟩ : ByteArray) [.string (⟨#[116, 114, 117, 101]⟩ : ByteArray)] from rfl) (Reps.one (show Kd.M Kd.string _ _ _ (⟨#[102, 97, 108, 115, 101]⟩ : ByteArray) [.string (⟨#[102, 97, 108, 115, 101]⟩ : ByteArray)] from rfl) (Reps.one (show Kd.M Kd.string _ _ _ (⟨#[110, 117, 108, 108]⟩ : ByteArray) [.string (⟨#[110, 117, 108, 108]⟩ : ByteArray)] from rfl) (Reps.none _ _))))); intro v222 w8 ho9 hb hg_ hnew_; clear hg_ hnew_; (first | rw [← Ny221.out] at ho9 | (simp only [Int.reduceToNat] at ho9; rw [← Ny221.out] at ho9)); have n0_ := Aside0.mk (Kd.R_lower ho9 (below_size (by repeat (first | (with_reducible first | exact HB.out | apply below_alloc | apply pw_below_drewN | apply below_drew1 | refine below_set ?_ GE218.out) | exact HB.out)))); have n1_ := Aside0.mk (blk_below (g := gb218) (o := .cells #[.int .i64 0, .int .i64 0] 27 (0, 0)) (by (with_reducible repeat (first | refine blk_drewN ?_ _ | refine blk_drew ?_ | refine blk_alloc ?_ _)); exact BK218.out) hb); have n2_ := Aside0.mk (below_step (by repeat (first | (with_reducible first | exact HB.out | apply below_alloc | apply pw_below_drewN | apply below_drew1 | refine below_set ?_ GE218.out) | exact HB.out)) hb); clear BK218; clear HB; have HO223 := n0_; have BK218 := n1_; have HB := n2_; clear n0_ n1_ n2_; clear hb ho9))
   repeat (go_quiet (fail); try go_wp2)
   go_loopg [6, 9] k (fun kq v6 v9 w' => ∃ (x6_1 : List (S31)) (x9_1 : Int) (x219000_1 : Int) (x219001_1 : Int), v9 = .int .i64 x9_1 ∧ Aside0 (abridgerref1_Jlex.l0 kq l0 x6_1 (⟨#[123, 125, 91, 93, 58, 44]⟩ : ByteArray) y221 x9_1 = some (r1, r2, r3)) ∧ Aside0 (kq ≤ k) ∧ Aside0 (Kd.R k31 31 w' w.heap.size (fun _ => True) v6 x6_1) ∧ Aside0 (Kd.R Kd.string 9 w' w.heap.size (fun _ => True) v222 y221) ∧ Aside0 (w'.heap[gb218]? = some (.cells #[.int .i64 x219000_1, .int .i64 x219001_1] 27 (0, 0))) ∧ Aside0 (Below w.heap.size w w'))
   case atStart => exact ⟨(([] : List (S31))), (0), (0), (0), (by first | rfl | (simp; done) | (simp [*]; done)), H', ⟨Nat.le_refl _⟩, ⟨by first | exact Kd.R_nil _ _ _ _ _ | exact Kd.N_nil _ _ _ _ _ | exact Kd.V_nil _ _ _ _ _ | exact Kd.Q_nil _ _ _ _ _ | exact Kd.S_nil _ _ _ _ _⟩, ⟨by (with_reducible repeat (first | apply Kd.R_alloc | apply Kd.R_drewN | apply Kd.R_drew)); exact HO223.out⟩, ⟨by (with_reducible repeat (first | refine blk_drewN ?_ _ | refine blk_drew ?_ | refine blk_alloc ?_ _)); exact BK218.out⟩, ⟨by repeat (first | (with_reducible first | exact HB.out | apply below_alloc | apply pw_below_drewN | apply below_drew1 | refine below_set ?_ GE218.out) | exact HB.out)⟩⟩
   case round =>
    clear H'
    try clear c1
    try clear c2
    try clear c2b0
    try clear c2b1
    try clear p2
    try clear c6
    try clear hcz4_0
    try clear hcz4_1
    try clear hfz4_0
    try clear hfz4_1
    obtain ⟨x6_1, x9_1, x219000_1, x219001_1, rfl, HA, HK1, HO_6, HO_8, BK218, HB⟩ := hrel
    cases gk with
    | zero => exact absurd HA.out (by simp [abridgerref1_Jlex.l0])
    | succ k1 =>
     have H := HA.out
     clear HA
     simp only [abridgerref1_Jlex.l0] at H
     by_cases c10 : x9_1 < (l0.length : Int)
     ·rw [if_pos c10] at H
      have c10b0 : decide (x9_1 < (l0.length : Int)) = true := decide_eq_true c10
      clear c10
      by_cases c11 : 0 ≤ x9_1
      ·rw [if_pos c11] at H
       have c11b0 : decide (0 ≤ x9_1) = true := decide_eq_true c11
       clear c11
       replace H := Option.bind_eq_some_iff.mp H
       obtain ⟨t225, A120, H⟩ := H
       replace H : (if t225 = true then (abridgerref1_Jlex.l0 k1 l0 x6_1 (⟨#[123, 125, 91, 93, 58, 44]⟩ : ByteArray) y221 (wrap64 (x9_1 + 1))) else (abridgerref1_Jlex.l1 k1 l0 x6_1 (⟨#[123, 125, 91, 93, 58, 44]⟩ : ByteArray) y221 x9_1 0 0 x9_1 (-1))) = some (r1, r2, r3) := H
       have A12 := Aside0.mk A120
       clear A120
       by_cases c13 : t225 = true
       ·subst c13
        have H1 : (abridgerref1_Jlex.l0 k1 l0 x6_1 (⟨#[123, 125, 91, 93, 58, 44]⟩ : ByteArray) y221 (wrap64 (x9_1 + 1))) = some (r1, r2, r3) := by rw [if_pos rfl] at H; exact H
        clear H
        have H := H1
        clear H1
        have H' := Aside0.mk H
        clear H
        have p224 : 0 ≤ (x9_1 : Int) := of_decide_eq_true (by first | (with_reducible assumption) | assumption)
        have q224 : x9_1 < (l0.length : Int) := of_decide_eq_true (by first | (with_reducible assumption) | assumption)
        obtain ⟨ad224, e224, hx224_0⟩ := Kd.at_int HR0.out x9_1 p224 q224
        cases e224
        replace hx224_0 := (HB.out.cell (World.block_lt_of_cell? w _ hx224_0)).trans hx224_0
        replace p224 := eq_true p224
        replace q224 := eq_true q224
        go_wp2_with (first | (go_at_call 16; (with_reducible refine (abridgerref1_blank.calls (rd l0 x9_1) true _ A12.out).mono ?_); rintro e w' ⟨rfl, ⟨nd, rfl⟩⟩; (try first | exact ⟨rfl, _, World.drewN_drewN _ _ _⟩ | exact ⟨rfl, _, Eq.trans (World.drewN_drewN _ _ _) (congrArg (World.drewN _) (Nat.add_assoc _ _ _))⟩)))
        repeat (go_quiet (fail); try go_wp2)
        go_roundg k1
        case measure => have := HK1.out; omega
        case rel => exact ⟨(x6_1), (wrap64 (x9_1 + 1)), (x219000_1), (x219001_1), (by first | rfl | (simp; done) | (simp [*]; done)), H', ⟨by have := HK1.out; omega⟩, ⟨by (with_reducible repeat (first | apply Kd.R_alloc | apply Kd.R_drewN | apply Kd.R_drew)); exact HO_6.out⟩, ⟨by (with_reducible repeat (first | apply Kd.R_alloc | apply Kd.R_drewN | apply Kd.R_drew)); exact HO_8.out⟩, ⟨by (with_reducible repeat (first | refine blk_drewN ?_ _ | refine blk_drew ?_ | refine blk_alloc ?_ _)); exact BK218.out⟩, ⟨by repeat (first | (with_reducible first | exact HB.out | apply below_alloc | apply pw_below_drewN | apply below_drew1 | refine below_set ?_ GE218.out) | exact HB.out)⟩⟩
       ·replace c13 := Bool.eq_false_iff.mpr c13
        subst c13
        have H1 : (abridgerref1_Jlex.l1 k1 l0 x6_1 (⟨#[123, 125, 91, 93, 58, 44]⟩ : ByteArray) y221 x9_1 0 0 x9_1 (-1)) = some (r1, r2, r3) := by rw [if_neg (show ¬ (false = true) by decide)] at H; exact H
        clear H
        have H := H1
        clear H1
        have H' := Aside0.mk H
        clear H
        have p224 : 0 ≤ (x9_1 : Int) := of_decide_eq_true (by first | (with_reducible assumption) | assumption)
        have q224 : x9_1 < (l0.length : Int) := of_decide_eq_true (by first | (with_reducible assumption) | assumption)
        obtain ⟨ad224, e224, hx224_0⟩ := Kd.at_int HR0.out x9_1 p224 q224
        cases e224
        replace hx224_0 := (HB.out.cell (World.block_lt_of_cell? w _ hx224_0)).trans hx224_0
        replace p224 := eq_true p224
        replace q224 := eq_true q224
        go_wp2_with (first | (go_at_call 16; (with_reducible refine (abridgerref1_blank.calls (rd l0 x9_1) false _ A12.out).mono ?_); rintro e w' ⟨rfl, ⟨nd, rfl⟩⟩; (try first | exact ⟨rfl, _, World.drewN_drewN _ _ _⟩ | exact ⟨rfl, _, Eq.trans (World.drewN_drewN _ _ _) (congrArg (World.drewN _) (Nat.add_assoc _ _ _))⟩)) | ((with_reducible refine gate_dst (N := 10) rfl ?_); refine box_event ?hg (N := 10) ?hd (cs := #[.int .i64 0, .int .i64 0, .int .i64 0]) (t := 31) ?hr ?_; (case hd => rfl); (case hg => rfl); (case hr => first | (go_simp; done) | (go_simp; rfl)); intro gb226 hg w14 hbox hb; have n0_ := Aside0.mk (Kd.R_below (Kd.R_elderB (by (with_reducible repeat (first | apply Kd.R_alloc | apply Kd.R_drewN | apply Kd.R_drew)); exact HO_6.out) gb226 (Nat.le_of_eq hg.symm)) hb); have n1_ := Aside0.mk (Kd.R_below (by (with_reducible repeat (first | apply Kd.R_alloc | apply Kd.R_drewN | apply Kd.R_drew)); exact HO_8.out) hb); have n2_ := Aside0.mk (blk_below (g := gb218) (o := .cells #[.int .i64 x219000_1, .int .i64 x219001_1] 27 (0, 0)) (by (with_reducible repeat (first | refine blk_drewN ?_ _ | refine blk_drew ?_ | refine blk_alloc ?_ _)); exact BK218.out) hb); have n3_ := Aside0.mk (below_step (by repeat (first | (with_reducible first | exact HB.out | apply below_alloc | apply pw_below_drewN | apply below_drew1 | refine below_set ?_ GE218.out) | exact HB.out)) hb); have n4_ := Aside0.mk (hbox); have n5_ := Aside0.mk ((by rw [hg]; exact (below_size (by repeat (first | (with_reducible first | exact HB.out | apply below_alloc | apply pw_below_drewN | apply below_drew1 | refine below_set ?_ GE218.out) | exact HB.out))) : w.heap.size ≤ gb226)); have n6_ := Aside0.mk ((by rw [hg]; exact (below_size (by repeat (first | (with_reducible first | exact HB.out | apply below_alloc | apply pw_below_drewN | apply below_drew1 | refine below_set ?_ GE218.out) | exact HB.out))) : w.heap.size ≤ gb226)); have n7_ := Aside0.mk ((by rw [hg]; exact Nat.ne_of_lt (blk_lt (g := gb218) (o := .cells #[.int .i64 x219000_1, .int .i64 x219001_1] 27 (0, 0)) (by (with_reducible repeat (first | refine blk_drewN ?_ _ | refine blk_drew ?_ | refine blk_alloc ?_ _)); exact BK218.out)) : gb218 ≠ gb226)); have n8_ := Aside0.mk ((by rw [hg]; exact Nat.ne_of_gt (blk_lt (g := gb218) (o := .cells #[.int .i64 x219000_1, .int .i64 x219001_1] 27 (0, 0)) (by (with_reducible repeat (first | refine blk_drewN ?_ _ | refine blk_drew ?_ | refine blk_alloc ?_ _)); exact BK218.out)) : gb226 ≠ gb218)); clear HO_6; clear HO_8; clear BK218; clear HB; have HO_6 := n0_; have HO_8 := n1_; have BK218 := n2_; have HB := n3_; have BK226 := n4_; have GW226 := n5_; have GE226 := n6_; have NB218_226 := n7_; have NB226_218 := n8_; clear n0_ n1_ n2_ n3_ n4_ n5_ n6_ n7_ n8_; clear hb hbox hg; have hnb15 := NB226_218.out; have hnc15 := NB218_226.out; have hcz16_0 : w14.cell? ⟨gb226, 0, none⟩ = some (.int .i64 0) := (blk_cell BK226.out 0).trans rfl; have hcz16_1 : w14.cell? ⟨gb226, 1, none⟩ = some (.int .i64 0) := (blk_cell BK226.out 1).trans rfl; have hcz16_2 : w14.cell? ⟨gb226, 2, none⟩ = some (.int .i64 0) := (blk_cell BK226.out 2).trans rfl; have hfz16_0 := blk_frozen BK226.out 0; have hfz16_1 := blk_frozen BK226.out 1; have hfz16_2 := blk_frozen BK226.out 2))
        repeat (go_quiet (fail); try go_wp2)
        go_loopg [11] k1 (fun kq v11 w' => ∃ (x11_2 : Int) (x227000_2 : Int) (x227002_2 : Int), v11 = .int .i64 x11_2 ∧ Aside0 (abridgerref1_Jlex.l1 kq l0 x6_1 (⟨#[123, 125, 91, 93, 58, 44]⟩ : ByteArray) y221 x9_1 x11_2 x227000_2 x9_1 x227002_2 = some (r1, r2, r3)) ∧ Aside0 (kq ≤ k1) ∧ Aside0 (Kd.R k31 31 w' w.heap.size (fun k_ => k_ ≠ gb226) u6 x6_1) ∧ Aside0 (Kd.R Kd.string 9 w' w.heap.size (fun _ => True) v222 y221) ∧ Aside0 (w'.heap[gb218]? = some (.cells #[.int .i64 x219000_1, .int .i64 x219001_1] 27 (0, 0))) ∧ Aside0 (w'.heap[gb226]? = some (.cells #[.int .i64 x227000_2, .int .i64 x9_1, .int .i64 x227002_2] 31 (0, 0))) ∧ Aside0 (Below w.heap.size w w'))
        case atStart => exact ⟨(0), (0), ((-1)), (by first | rfl | (simp; done) | (simp [*]; done)), H', ⟨Nat.le_refl _⟩, ⟨by (with_reducible repeat (first | apply Kd.R_alloc | apply Kd.R_drewN | apply Kd.R_drew)); exact Kd.R_mono (Kd.R_far (p := ⟨gb226, 2, none⟩) (Kd.R_far (p := ⟨gb226, 1, none⟩) (Kd.R_far (p := ⟨gb226, 0, none⟩) (Kd.R_mono HO_6.out (fun k_ hk => (⟨hk, hk.2⟩ : _ ∧ k_ ≠ gb226))) (fun _ hk => hk.2) (.int .i64 0)) (fun _ hk => hk.2) (.int .i64 x9_1)) (fun _ hk => hk.2) (.int .i64 (-1))) (fun _ hk => hk.1.2)⟩, ⟨by (with_reducible repeat (first | apply Kd.R_alloc | apply Kd.R_drewN | apply Kd.R_drew)); exact Kd.R_mono (Kd.R_far (p := ⟨gb226, 2, none⟩) (Kd.R_far (p := ⟨gb226, 1, none⟩) (Kd.R_far (p := ⟨gb226, 0, none⟩) (Kd.R_types HO_8.out BK226.out (by decide)) (fun _ hk => hk.2) (.int .i64 0)) (fun _ hk => hk.2) (.int .i64 x9_1)) (fun _ hk => hk.2) (.int .i64 (-1))) (fun _ hk => trivial)⟩, ⟨by (with_reducible repeat (first | refine blk_drewN ?_ _ | refine blk_drew ?_ | refine blk_alloc ?_ _)); refine blk_far ?_ NB218_226.out _; (with_reducible repeat (first | refine blk_drewN ?_ _ | refine blk_drew ?_ | refine blk_alloc ?_ _)); refine blk_far ?_ NB218_226.out _; (with_reducible repeat (first | refine blk_drewN ?_ _ | refine blk_drew ?_ | refine blk_alloc ?_ _)); refine blk_far ?_ NB218_226.out _; (with_reducible repeat (first | refine blk_drewN ?_ _ | refine blk_drew ?_ | refine blk_alloc ?_ _)); exact BK218.out⟩, ⟨by (with_reducible repeat (first | refine blk_drewN ?_ _ | refine blk_drew ?_ | refine blk_alloc ?_ _)); refine blk_put (cs := #[.int .i64 0, .int .i64 x9_1, .int .i64 0]) ?_ 2 _ rfl; (with_reducible repeat (first | refine blk_drewN ?_ _ | refine blk_drew ?_ | refine blk_alloc ?_ _)); refine blk_put (cs := #[.int .i64 0, .int .i64 0, .int .i64 0]) ?_ 1 _ rfl; (with_reducible repeat (first | refine blk_drewN ?_ _ | refine blk_drew ?_ | refine blk_alloc ?_ _)); refine blk_put (cs := #[.int .i64 0, .int .i64 0, .int .i64 0]) ?_ 0 _ rfl; (with_reducible repeat (first | refine blk_drewN ?_ _ | refine blk_drew ?_ | refine blk_alloc ?_ _)); exact BK226.out⟩, ⟨by repeat (first | (with_reducible first | exact HB.out | apply below_alloc | apply pw_below_drewN | apply below_drew1 | refine below_set ?_ GE218.out | refine below_set ?_ GE226.out) | exact HB.out)⟩⟩
        case round =>
         clear H'
         try clear c1
         try clear c2
         try clear c2b0
         try clear c2b1
         try clear p2
         try clear q2
         try clear hx2
         try clear c6
         try clear p6
         try clear c10
         try clear c10b0
         try clear c11
         try clear c11b0
         try clear c13
         try clear c15
         try clear hcz16_0
         try clear hcz16_1
         try clear hcz16_2
         try clear hcz4_0
         try clear hcz4_1
         try clear hfz16_0
         try clear hfz16_1
         try clear hfz16_2
         try clear hfz4_0
         try clear hfz4_1
         try clear hx224_0
         try clear p2
         try clear p224
         try clear q224
         obtain ⟨x11_2, x227000_2, x227002_2, rfl, HA, HK2, HO_6, HO_8, BK218, BK226, HB⟩ := hrel
         cases gk with
         | zero => exact absurd HA.out (by simp [abridgerref1_Jlex.l1])
         | succ k2 =>
          have H := HA.out
          clear HA
          simp only [abridgerref1_Jlex.l1] at H
          by_cases c17 : x11_2 < ((⟨#[123, 125, 91, 93, 58, 44]⟩ : ByteArray).size : Int)
          ·rw [if_pos c17] at H
           have c17b0 : decide (x11_2 < ((⟨#[123, 125, 91, 93, 58, 44]⟩ : ByteArray).size : Int)) = true := decide_eq_true c17
           (try (have c17k0 : decide (x11_2 < 6) = true := c17b0))
           clear c17
           by_cases c18 : 0 ≤ x11_2
           ·rw [if_pos c18] at H
            have c18b0 : decide (0 ≤ x11_2) = true := decide_eq_true c18
            clear c18
            by_cases c20 : 0 ≤ x9_1
            ·rw [if_pos c20] at H
             have c20b0 : decide (0 ≤ x9_1) = true := decide_eq_true c20
             clear c20
             by_cases c21 : x9_1 < (l0.length : Int)
             ·rw [if_pos c21] at H
              have c21b0 : decide (x9_1 < (l0.length : Int)) = true := decide_eq_true c21
              clear c21
              by_cases c22 : (bt (⟨#[123, 125, 91, 93, 58, 44]⟩ : ByteArray) x11_2) = (rd l0 x9_1)
              ·rw [if_pos c22] at H
               have c22b0 : ((bt (⟨#[123, 125, 91, 93, 58, 44]⟩ : ByteArray) x11_2) == (rd l0 x9_1)) = true := beq_iff_eq.mpr c22
               have c22b1 : ((bt (⟨#[123, 125, 91, 93, 58, 44]⟩ : ByteArray) x11_2) != (rd l0 x9_1)) = false := bne_eq_false_iff_eq.mpr c22
               clear c22
               have H' := Aside0.mk H
               clear H
               have p19 : 0 ≤ (x11_2 : Int) := of_decide_eq_true (by first | (with_reducible assumption) | assumption)
               have q19 : x11_2 < (6 : Int) := of_decide_eq_true (by first | (with_reducible assumption) | assumption)
               have hx19 := bt_at (⟨#[123, 125, 91, 93, 58, 44]⟩ : ByteArray) x11_2
               replace p19 := eq_true p19
               replace q19 := eq_true q19
               have p227 : 0 ≤ (x9_1 : Int) := of_decide_eq_true (by first | (with_reducible assumption) | assumption)
               have q227 : x9_1 < (l0.length : Int) := of_decide_eq_true (by first | (with_reducible assumption) | assumption)
               obtain ⟨ad227, e227, hx227_0⟩ := Kd.at_int HR0.out x9_1 p227 q227
               obtain rfl : ad224 = ad227 := (by injection e227)
               replace hx227_0 := (HB.out.cell (World.block_lt_of_cell? w _ hx227_0)).trans hx227_0
               replace p227 := eq_true p227
               replace q227 := eq_true q227
               have hnb23 := NB226_218.out
               have hnc23 := NB218_226.out
               have hcz24_0 : wr.cell? ⟨gb226, 0, none⟩ = some (.int .i64 x227000_2) := (blk_cell BK226.out 0).trans rfl
               have hcz24_1 : wr.cell? ⟨gb226, 1, none⟩ = some (.int .i64 x9_1) := (blk_cell BK226.out 1).trans rfl
               have hcz24_2 : wr.cell? ⟨gb226, 2, none⟩ = some (.int .i64 x227002_2) := (blk_cell BK226.out 2).trans rfl
               have hfz24_0 := blk_frozen BK226.out 0
               have hfz24_1 := blk_frozen BK226.out 1
               have hfz24_2 := blk_frozen BK226.out 2
               go_wp2
               repeat (go_quiet (fail); try go_wp2)
               go_roundg k2
               case measure => have := HK1.out; have := HK2.out; omega
               case rel => exact ⟨(wrap64 (x11_2 + 1)), (wrap64 (x11_2 + 1)), (wrap64 (x9_1 + 1)), (by first | rfl | (simp; done) | (simp [*]; done)), H', ⟨by have := HK1.out; have := HK2.out; omega⟩, ⟨by (with_reducible repeat (first | apply Kd.R_alloc | apply Kd.R_drewN | apply Kd.R_drew)); exact Kd.R_mono (Kd.R_far (p := ⟨gb226, 2, none⟩) (Kd.R_far (p := ⟨gb226, 0, none⟩) (Kd.R_mono HO_6.out (fun k_ hk => (⟨hk, hk⟩ : _ ∧ k_ ≠ gb226))) (fun _ hk => hk.2) (.int .i64 (wrap64 (x11_2 + 1)))) (fun _ hk => hk.2) (.int .i64 (wrap64 (x9_1 + 1)))) (fun _ hk => hk.1)⟩, ⟨by (with_reducible repeat (first | apply Kd.R_alloc | apply Kd.R_drewN | apply Kd.R_drew)); exact Kd.R_mono (Kd.R_far (p := ⟨gb226, 2, none⟩) (Kd.R_far (p := ⟨gb226, 0, none⟩) (Kd.R_types HO_8.out BK226.out (by decide)) (fun _ hk => hk.2) (.int .i64 (wrap64 (x11_2 + 1)))) (fun _ hk => hk.2) (.int .i64 (wrap64 (x9_1 + 1)))) (fun _ hk => trivial)⟩, ⟨by (with_reducible repeat (first | refine blk_drewN ?_ _ | refine blk_drew ?_ | refine blk_alloc ?_ _)); refine blk_far ?_ NB218_226.out _; (with_reducible repeat (first | refine blk_drewN ?_ _ | refine blk_drew ?_ | refine blk_alloc ?_ _)); refine blk_far ?_ NB218_226.out _; (with_reducible repeat (first | refine blk_drewN ?_ _ | refine blk_drew ?_ | refine blk_alloc ?_ _)); exact BK218.out⟩, ⟨by (with_reducible repeat (first | refine blk_drewN ?_ _ | refine blk_drew ?_ | refine blk_alloc ?_ _)); refine blk_put (cs := #[.int .i64 (wrap64 (x11_2 + 1)), .int .i64 x9_1, .int .i64 x227002_2]) ?_ 2 _ rfl; (with_reducible repeat (first | refine blk_drewN ?_ _ | refine blk_drew ?_ | refine blk_alloc ?_ _)); refine blk_put (cs := #[.int .i64 x227000_2, .int .i64 x9_1, .int .i64 x227002_2]) ?_ 0 _ rfl; (with_reducible repeat (first | refine blk_drewN ?_ _ | refine blk_drew ?_ | refine blk_alloc ?_ _)); exact BK226.out⟩, ⟨by repeat (first | (with_reducible first | exact HB.out | apply below_alloc | apply pw_below_drewN | apply below_drew1 | refine below_set ?_ GE218.out | refine below_set ?_ GE226.out) | exact HB.out)⟩⟩
              ·rw [if_neg c22] at H
               have c22b0 : ((bt (⟨#[123, 125, 91, 93, 58, 44]⟩ : ByteArray) x11_2) == (rd l0 x9_1)) = false := beq_eq_false_iff_ne.mpr c22
               have c22b1 : ((bt (⟨#[123, 125, 91, 93, 58, 44]⟩ : ByteArray) x11_2) != (rd l0 x9_1)) = true := bne_iff_ne.mpr c22
               have H' := Aside0.mk H
               clear H
               have p19 : 0 ≤ (x11_2 : Int) := of_decide_eq_true (by first | (with_reducible assumption) | assumption)
               have q19 : x11_2 < (6 : Int) := of_decide_eq_true (by first | (with_reducible assumption) | assumption)
               have hx19 := bt_at (⟨#[123, 125, 91, 93, 58, 44]⟩ : ByteArray) x11_2
               replace p19 := eq_true p19
               replace q19 := eq_true q19
               have p227 : 0 ≤ (x9_1 : Int) := of_decide_eq_true (by first | (with_reducible assumption) | assumption)
               have q227 : x9_1 < (l0.length : Int) := of_decide_eq_true (by first | (with_reducible assumption) | assumption)
               obtain ⟨ad227, e227, hx227_0⟩ := Kd.at_int HR0.out x9_1 p227 q227
               obtain rfl : ad224 = ad227 := (by injection e227)
               replace hx227_0 := (HB.out.cell (World.block_lt_of_cell? w _ hx227_0)).trans hx227_0
               replace p227 := eq_true p227
               replace q227 := eq_true q227
               go_wp2
               repeat (go_quiet (fail); try go_wp2)
               go_roundg k2
               case measure => have := HK1.out; have := HK2.out; omega
               case rel => exact ⟨(wrap64 (x11_2 + 1)), (x227000_2), (x227002_2), (by first | rfl | (simp; done) | (simp [*]; done)), H', ⟨by have := HK1.out; have := HK2.out; omega⟩, ⟨by (with_reducible repeat (first | apply Kd.R_alloc | apply Kd.R_drewN | apply Kd.R_drew)); exact HO_6.out⟩, ⟨by (with_reducible repeat (first | apply Kd.R_alloc | apply Kd.R_drewN | apply Kd.R_drew)); exact HO_8.out⟩, ⟨by (with_reducible repeat (first | refine blk_drewN ?_ _ | refine blk_drew ?_ | refine blk_alloc ?_ _)); exact BK218.out⟩, ⟨by (with_reducible repeat (first | refine blk_drewN ?_ _ | refine blk_drew ?_ | refine blk_alloc ?_ _)); exact BK226.out⟩, ⟨by repeat (first | (with_reducible first | exact HB.out | apply below_alloc | apply pw_below_drewN | apply below_drew1 | refine below_set ?_ GE218.out | refine below_set ?_ GE226.out) | exact HB.out)⟩⟩
             ·rw [if_neg c21] at H
              exact absurd H (by simp)
            ·rw [if_neg c20] at H
             exact absurd H (by simp)
           ·rw [if_neg c18] at H
            exact absurd H (by simp)
          ·rw [if_neg c17] at H
           have c17b0 : decide (x11_2 < ((⟨#[123, 125, 91, 93, 58, 44]⟩ : ByteArray).size : Int)) = false := decide_eq_false c17
           (try (have c17k0 : decide (x11_2 < 6) = false := c17b0))
           clear c17
           have H' := Aside0.mk H
           clear H
           go_wp2
           repeat (go_quiet (fail); try go_wp2)
           go_loopg [12] k2 (fun kq v12 w' => ∃ (x12_3 : Int) (x227000_3 : Int) (x227002_3 : Int), v12 = .int .i64 x12_3 ∧ Aside0 (abridgerref1_Jlex.l2 kq l0 x6_1 (⟨#[123, 125, 91, 93, 58, 44]⟩ : ByteArray) y221 x9_1 x12_3 x227000_3 x9_1 x227002_3 = some (r1, r2, r3)) ∧ Aside0 (kq ≤ k2) ∧ Aside0 (Kd.R k31 31 w' w.heap.size (fun k_ => k_ ≠ gb226) u6 x6_1) ∧ Aside0 (Kd.R Kd.string 9 w' w.heap.size (fun _ => True) v222 y221) ∧ Aside0 (w'.heap[gb218]? = some (.cells #[.int .i64 x219000_1, .int .i64 x219001_1] 27 (0, 0))) ∧ Aside0 (w'.heap[gb226]? = some (.cells #[.int .i64 x227000_3, .int .i64 x9_1, .int .i64 x227002_3] 31 (0, 0))) ∧ Aside0 (Below w.heap.size w w'))
           case atStart => exact ⟨(0), (x227000_2), (x227002_2), (by first | rfl | (simp; done) | (simp [*]; done)), H', ⟨Nat.le_refl _⟩, ⟨by (with_reducible repeat (first | apply Kd.R_alloc | apply Kd.R_drewN | apply Kd.R_drew)); exact HO_6.out⟩, ⟨by (with_reducible repeat (first | apply Kd.R_alloc | apply Kd.R_drewN | apply Kd.R_drew)); exact HO_8.out⟩, ⟨by (with_reducible repeat (first | refine blk_drewN ?_ _ | refine blk_drew ?_ | refine blk_alloc ?_ _)); exact BK218.out⟩, ⟨by (with_reducible repeat (first | refine blk_drewN ?_ _ | refine blk_drew ?_ | refine blk_alloc ?_ _)); exact BK226.out⟩, ⟨by repeat (first | (with_reducible first | exact HB.out | apply below_alloc | apply pw_below_drewN | apply below_drew1 | refine below_set ?_ GE218.out | refine below_set ?_ GE226.out) | exact HB.out)⟩⟩
           case round =>
            clear H'
            try clear c1
            try clear p1
            try clear q1
            try clear hx1
            try clear c2
            try clear c2b0
            try clear c2b1
            try clear p2
            try clear q2
            try clear hx2
            try clear c6
            try clear p6
            try clear c10
            try clear c10b0
            try clear c11
            try clear c11b0
            try clear c13
            try clear c15
            try clear c17
            try clear c17b0
            try clear c18
            try clear c18b0
            try clear p19
            try clear q19
            try clear hx19
            try clear c20
            try clear c20b0
            try clear c21
            try clear c21b0
            try clear c22
            try clear c22b0
            try clear c22b1
            try clear p22
            try clear q22
            try clear hx22
            try clear c23
            try clear hcz16_0
            try clear hcz16_1
            try clear hcz16_2
            try clear hcz24_0
            try clear hcz24_1
            try clear hcz24_2
            try clear hcz4_0
            try clear hcz4_1
            try clear hfz16_0
            try clear hfz16_1
            try clear hfz16_2
            try clear hfz24_0
            try clear hfz24_1
            try clear hfz24_2
            try clear hfz4_0
            try clear hfz4_1
            try clear hx224_0
            try clear hx227_0
            try clear p19
            try clear p2
            try clear p224
            try clear p227
            try clear p6
            try clear q19
            try clear q2
            try clear q224
            try clear q227
            obtain ⟨x12_3, x227000_3, x227002_3, rfl, HA, HK3, HO_6, HO_8, BK218, BK226, HB⟩ := hrel
            cases gk with
            | zero => exact absurd HA.out (by simp [abridgerref1_Jlex.l2])
            | succ k3 =>
             have H := HA.out
             clear HA
             simp only [abridgerref1_Jlex.l2] at H
             by_cases c25 : x12_3 < (y221.length : Int)
             ·rw [if_pos c25] at H
              have c25b0 : decide (x12_3 < (y221.length : Int)) = true := decide_eq_true c25
              clear c25
              by_cases c26 : 0 ≤ x12_3
              ·rw [if_pos c26] at H
               have c26b0 : decide (0 ≤ x12_3) = true := decide_eq_true c26
               clear c26
               by_cases c27 : (wrap64 (x9_1 + ((rdOf ByteArray.empty y221 x12_3).size : Int))) ≤ (l0.length : Int)
               ·rw [if_pos c27] at H
                have c27b0 : decide ((wrap64 (x9_1 + ((rdOf ByteArray.empty y221 x12_3).size : Int))) ≤ (l0.length : Int)) = true := decide_eq_true c27
                clear c27
                by_cases c28 : 0 ≤ x9_1
                ·rw [if_pos c28] at H
                 have c28b0 := eq_true c28
                 have c28b1 : decide (0 ≤ x9_1) = true := decide_eq_true c28
                 clear c28
                 by_cases c29 : x9_1 ≤ (wrap64 (x9_1 + ((rdOf ByteArray.empty y221 x12_3).size : Int)))
                 ·rw [if_pos c29] at H
                  have c29b0 := eq_true c29
                  have c29b1 : decide (x9_1 ≤ (wrap64 (x9_1 + ((rdOf ByteArray.empty y221 x12_3).size : Int)))) = true := decide_eq_true c29
                  have c30b0 := eq_true (of_decide_eq_true (by first | (with_reducible assumption) | assumption) : (wrap64 (x9_1 + ((rdOf ByteArray.empty y221 x12_3).size : Int))) ≤ (l0.length : Int))
                  obtain ⟨y229, hy229⟩ : ∃ y_ : List Int, y_ = ((l0.take ((wrap64 (x9_1 + ((rdOf ByteArray.empty y221 x12_3).size : Int))) : Int).toNat).drop (x9_1 : Int).toNat) := ⟨_, rfl⟩
                  replace H : (if (strOfNums y229).toList = (rdOf ByteArray.empty y221 x12_3).toList then ((abridgerref1_goes.f l0 (wrap64 (x9_1 + ((rdOf ByteArray.empty y221 x12_3).size : Int)))).bind fun t234 => (if t234 = true then (abridgerref1_Jlex.l2 k3 l0 x6_1 (⟨#[123, 125, 91, 93, 58, 44]⟩ : ByteArray) y221 x9_1 (wrap64 (x12_3 + 1)) x227000_3 x9_1 x227002_3) else (abridgerref1_Jlex.l2 k3 l0 x6_1 (⟨#[123, 125, 91, 93, 58, 44]⟩ : ByteArray) y221 x9_1 (wrap64 (x12_3 + 1)) (wrap64 (9 + x12_3)) x9_1 (wrap64 (x9_1 + ((rdOf ByteArray.empty y221 x12_3).size : Int)))))) else (abridgerref1_Jlex.l2 k3 l0 x6_1 (⟨#[123, 125, 91, 93, 58, 44]⟩ : ByteArray) y221 x9_1 (wrap64 (x12_3 + 1)) x227000_3 x9_1 x227002_3)) = some (r1, r2, r3) := by first | (rw [hy229]; with_reducible exact H) | (have H2_ := (Option.bind_some _ _).symm.trans H; rw [hy229]; with_reducible exact H2_) | (have H2_ := (Option.bind_some _ _).symm.trans H; with_reducible exact H2_) | with_reducible exact H | (rw [hy229]; exact H) | exact H
                  have Ny229 := Aside0.mk hy229
                  clear hy229
                  by_cases c31 : (strOfNums y229).toList = (rdOf ByteArray.empty y221 x12_3).toList
                  ·rw [if_pos c31] at H
                   have c31b0 : ((strOfNums y229).toList == (rdOf ByteArray.empty y221 x12_3).toList) = true := beq_iff_eq.mpr c31
                   have c31b1 : ((strOfNums y229).toList != (rdOf ByteArray.empty y221 x12_3).toList) = false := bne_eq_false_iff_eq.mpr c31
                   clear c31
                   replace H := Option.bind_eq_some_iff.mp H
                   obtain ⟨t234, A320, H⟩ := H
                   replace H : (if t234 = true then (abridgerref1_Jlex.l2 k3 l0 x6_1 (⟨#[123, 125, 91, 93, 58, 44]⟩ : ByteArray) y221 x9_1 (wrap64 (x12_3 + 1)) x227000_3 x9_1 x227002_3) else (abridgerref1_Jlex.l2 k3 l0 x6_1 (⟨#[123, 125, 91, 93, 58, 44]⟩ : ByteArray) y221 x9_1 (wrap64 (x12_3 + 1)) (wrap64 (9 + x12_3)) x9_1 (wrap64 (x9_1 + ((rdOf ByteArray.empty y221 x12_3).size : Int))))) = some (r1, r2, r3) := H
                   have A32 := Aside0.mk A320
                   clear A320
                   by_cases c33 : t234 = true
                   ·subst c33
                    have H1 : (abridgerref1_Jlex.l2 k3 l0 x6_1 (⟨#[123, 125, 91, 93, 58, 44]⟩ : ByteArray) y221 x9_1 (wrap64 (x12_3 + 1)) x227000_3 x9_1 x227002_3) = some (r1, r2, r3) := by rw [if_pos rfl] at H; exact H
                    clear H
                    have H := H1
                    clear H1
                    have H' := Aside0.mk H
                    clear H
                    obtain ⟨Ao34, co34, eo34⟩ := Kd.R_slice HO_8.out
                    subst eo34
                    have p228 : 0 ≤ (x12_3 : Int) := of_decide_eq_true (by first | (with_reducible assumption) | assumption)
                    have q228 : x12_3 < (y221.length : Int) := of_decide_eq_true (by first | (with_reducible assumption) | assumption)
                    obtain ⟨ad228, e228, hx228_0⟩ := Kd.at_string (Kd.R_reads' HO_8.out).2.2 x12_3 p228 q228
                    cases e228
                    replace p228 := eq_true p228
                    replace q228 := eq_true q228
                    have q35 : ((wrap64 (x9_1 + ((rdOf ByteArray.empty y221 x12_3).size : Int))) : Int) ≤ ((l0.length : Int) : Int) := of_decide_eq_true (by first | (with_reducible assumption) | assumption)
                    obtain ⟨i035, hi035, _, hsz35, _⟩ := info_parts info5
                    have hroom35 : l0.length ≤ c0 := HC0.out
                    have hC35 : Kd.C (Kd.int .u8) _ (some ad224) l0.length l0 := HR0.out
                    have ql35 : (x9_1 : Int) ≤ ((wrap64 (x9_1 + ((rdOf ByteArray.empty y221 x12_3).size : Int))) : Int) := of_decide_eq_true (by first | (with_reducible assumption) | assumption)
                    have q035 : (0 : Int) ≤ (x9_1 : Int) := of_decide_eq_true (by first | (with_reducible assumption) | assumption)
                    have hcut35 := cut_mid (P := Try.prog) 22 5 .i64 .i64 Try.underlying22 hi035 1 hsz35 (some ad224) l0.length c0 x9_1 (wrap64 (x9_1 + ((rdOf ByteArray.empty y221 x12_3).size : Int))) q035 ql35 q35 hroom35
                    have hr35 := Kd.C_mid (lo := (x9_1 : Int).toNat) (hi := ((wrap64 (x9_1 + ((rdOf ByteArray.empty y221 x12_3).size : Int))) : Int).toNat) (c := c0) hC35 (by omega) (by omega) hroom35
                    obtain ⟨A35, hA35⟩ : ∃ A1, A1 = (if c0 = (x9_1 : Int).toNat then (some ad224) else ((some ad224) : Option Addr).map (·.add ((x9_1 : Int).toNat * 1))) := ⟨_, rfl⟩
                    obtain ⟨c35, hc35⟩ : ∃ c1, c1 = c0 - (x9_1 : Int).toNat := ⟨_, rfl⟩
                    have hy35 : y229.length = ((wrap64 (x9_1 + ((rdOf ByteArray.empty y221 x12_3).size : Int))) : Int).toNat - (x9_1 : Int).toNat := (by rw [Ny229.out, List.length_drop, List.length_take] <;> omega)
                    rw [show ((l0).take ((wrap64 (x9_1 + ((rdOf ByteArray.empty y221 x12_3).size : Int))) : Int).toNat).drop (x9_1 : Int).toNat = y229 from Ny229.out.symm] at hr35
                    replace hr35 : Kd.C (Kd.int .u8) _ A35 y229.length y229 := (by rw [hA35]; exact hr35)
                    rw [← hy35, ← hA35, ← hc35] at hcut35
                    have HR232 := Aside0.mk hr35
                    have HC232 := Aside0.mk (show y229.length ≤ c35 from by rw [hy35, hc35]; exact Nat.sub_le_sub_right (Nat.le_trans (by omega) hroom35) _)
                    clear hr35 hC35 hroom35 hi035 hsz35 hc35
                    have KY35 := Aside0.mk hy35
                    have KA35 := Aside0.mk hA35
                    clear hy35 hA35
                    replace q35 := eq_true q35
                    have hcv36 := Kd.C_string (P := Try.prog) (A := A35) (c := c35) Try.underlying22 Try.underlying5 Try.underlying9 (Kd.C_below HR232.out HB.out)
                    have hcv36q := fun n_ : Nat => Kd.C_string (P := Try.prog) (A := A35) (c := c35) Try.underlying22 Try.underlying5 Try.underlying9 (Kd.C_drewN (Kd.C_below HR232.out HB.out) n_)
                    have p233 : 0 ≤ (x12_3 : Int) := of_decide_eq_true (by first | (with_reducible assumption) | assumption)
                    have q233 : x12_3 < (y221.length : Int) := of_decide_eq_true (by first | (with_reducible assumption) | assumption)
                    obtain ⟨ad233, e233, hx233_0⟩ := Kd.at_string (Kd.R_reads' HO_8.out).2.2 x12_3 p233 q233
                    obtain rfl : ad228 = ad233 := (by injection e233)
                    replace p233 := eq_true p233
                    replace q233 := eq_true q233
                    go_wp2_with (first | (go_at_call 17; (with_reducible refine (abridgerref1_goes.calls _ _ l0 (wrap64 (x9_1 + ((rdOf ByteArray.empty y221 x12_3).size : Int))) true _ ?side1 ?side2 A32.out).mono ?_); (case side1 => repeat (first | exact (Kd.C_below HR0.out HB.out) | (with_reducible refine Kd.C_alloc ?_ _) | (with_reducible refine Kd.C_drewN ?_ _) | (with_reducible refine Kd.C_drew ?_))); (case side2 => exact HC0.out); rintro e w' ⟨rfl, ⟨nd, rfl⟩⟩; (try first | exact ⟨rfl, _, World.drewN_drewN _ _ _⟩ | exact ⟨rfl, _, Eq.trans (World.drewN_drewN _ _ _) (congrArg (World.drewN _) (Nat.add_assoc _ _ _))⟩)))
                    repeat (go_quiet (first | (go_at_call 17; (with_reducible refine (abridgerref1_goes.calls _ _ l0 (wrap64 (x9_1 + ((rdOf ByteArray.empty y221 x12_3).size : Int))) true _ ?side1 ?side2 A32.out).mono ?_); (case side1 => repeat (first | exact (Kd.C_below HR0.out HB.out) | (with_reducible refine Kd.C_alloc ?_ _) | (with_reducible refine Kd.C_drewN ?_ _) | (with_reducible refine Kd.C_drew ?_))); (case side2 => exact HC0.out); rintro e w' ⟨rfl, ⟨nd, rfl⟩⟩; (try first | exact ⟨rfl, _, World.drewN_drewN _ _ _⟩ | exact ⟨rfl, _, Eq.trans (World.drewN_drewN _ _ _) (congrArg (World.drewN _) (Nat.add_assoc _ _ _))⟩))); try go_wp2_with (first | (go_at_call 17; (with_reducible refine (abridgerref1_goes.calls _ _ l0 (wrap64 (x9_1 + ((rdOf ByteArray.empty y221 x12_3).size : Int))) true _ ?side1 ?side2 A32.out).mono ?_); (case side1 => repeat (first | exact (Kd.C_below HR0.out HB.out) | (with_reducible refine Kd.C_alloc ?_ _) | (with_reducible refine Kd.C_drewN ?_ _) | (with_reducible refine Kd.C_drew ?_))); (case side2 => exact HC0.out); rintro e w' ⟨rfl, ⟨nd, rfl⟩⟩; (try first | exact ⟨rfl, _, World.drewN_drewN _ _ _⟩ | exact ⟨rfl, _, Eq.trans (World.drewN_drewN _ _ _) (congrArg (World.drewN _) (Nat.add_assoc _ _ _))⟩))))
                    go_roundg k3
                    case measure => have := HK1.out; have := HK2.out; have := HK3.out; omega
                    case rel => exact ⟨(wrap64 (x12_3 + 1)), (x227000_3), (x227002_3), (by first | rfl | (simp; done) | (simp [*]; done)), H', ⟨by have := HK1.out; have := HK2.out; have := HK3.out; omega⟩, ⟨by (with_reducible repeat (first | apply Kd.R_alloc | apply Kd.R_drewN | apply Kd.R_drew)); exact HO_6.out⟩, ⟨by (with_reducible repeat (first | apply Kd.R_alloc | apply Kd.R_drewN | apply Kd.R_drew)); exact HO_8.out⟩, ⟨by (with_reducible repeat (first | refine blk_drewN ?_ _ | refine blk_drew ?_ | refine blk_alloc ?_ _)); exact BK218.out⟩, ⟨by (with_reducible repeat (first | refine blk_drewN ?_ _ | refine blk_drew ?_ | refine blk_alloc ?_ _)); exact BK226.out⟩, ⟨by repeat (first | (with_reducible first | exact HB.out | apply below_alloc | apply pw_below_drewN | apply below_drew1 | refine below_set ?_ GE218.out | refine below_set ?_ GE226.out) | exact HB.out)⟩⟩
                   ·replace c33 := Bool.eq_false_iff.mpr c33
                    subst c33
                    have H1 : (abridgerref1_Jlex.l2 k3 l0 x6_1 (⟨#[123, 125, 91, 93, 58, 44]⟩ : ByteArray) y221 x9_1 (wrap64 (x12_3 + 1)) (wrap64 (9 + x12_3)) x9_1 (wrap64 (x9_1 + ((rdOf ByteArray.empty y221 x12_3).size : Int)))) = some (r1, r2, r3) := by rw [if_neg (show ¬ (false = true) by decide)] at H; exact H
                    clear H
                    have H := H1
                    clear H1
                    have H' := Aside0.mk H
                    clear H
                    obtain ⟨Ao37, co37, eo37⟩ := Kd.R_slice HO_8.out
                    subst eo37
                    have p228 : 0 ≤ (x12_3 : Int) := of_decide_eq_true (by first | (with_reducible assumption) | assumption)
                    have q228 : x12_3 < (y221.length : Int) := of_decide_eq_true (by first | (with_reducible assumption) | assumption)
                    obtain ⟨ad228, e228, hx228_0⟩ := Kd.at_string (Kd.R_reads' HO_8.out).2.2 x12_3 p228 q228
                    cases e228
                    replace p228 := eq_true p228
                    replace q228 := eq_true q228
                    have q38 : ((wrap64 (x9_1 + ((rdOf ByteArray.empty y221 x12_3).size : Int))) : Int) ≤ ((l0.length : Int) : Int) := of_decide_eq_true (by first | (with_reducible assumption) | assumption)
                    obtain ⟨i038, hi038, _, hsz38, _⟩ := info_parts info5
                    have hroom38 : l0.length ≤ c0 := HC0.out
                    have hC38 : Kd.C (Kd.int .u8) _ (some ad224) l0.length l0 := HR0.out
                    have ql38 : (x9_1 : Int) ≤ ((wrap64 (x9_1 + ((rdOf ByteArray.empty y221 x12_3).size : Int))) : Int) := of_decide_eq_true (by first | (with_reducible assumption) | assumption)
                    have q038 : (0 : Int) ≤ (x9_1 : Int) := of_decide_eq_true (by first | (with_reducible assumption) | assumption)
                    have hcut38 := cut_mid (P := Try.prog) 22 5 .i64 .i64 Try.underlying22 hi038 1 hsz38 (some ad224) l0.length c0 x9_1 (wrap64 (x9_1 + ((rdOf ByteArray.empty y221 x12_3).size : Int))) q038 ql38 q38 hroom38
                    have hr38 := Kd.C_mid (lo := (x9_1 : Int).toNat) (hi := ((wrap64 (x9_1 + ((rdOf ByteArray.empty y221 x12_3).size : Int))) : Int).toNat) (c := c0) hC38 (by omega) (by omega) hroom38
                    obtain ⟨A38, hA38⟩ : ∃ A1, A1 = (if c0 = (x9_1 : Int).toNat then (some ad224) else ((some ad224) : Option Addr).map (·.add ((x9_1 : Int).toNat * 1))) := ⟨_, rfl⟩
                    obtain ⟨c38, hc38⟩ : ∃ c1, c1 = c0 - (x9_1 : Int).toNat := ⟨_, rfl⟩
                    have hy38 : y229.length = ((wrap64 (x9_1 + ((rdOf ByteArray.empty y221 x12_3).size : Int))) : Int).toNat - (x9_1 : Int).toNat := (by rw [Ny229.out, List.length_drop, List.length_take] <;> omega)
                    rw [show ((l0).take ((wrap64 (x9_1 + ((rdOf ByteArray.empty y221 x12_3).size : Int))) : Int).toNat).drop (x9_1 : Int).toNat = y229 from Ny229.out.symm] at hr38
                    replace hr38 : Kd.C (Kd.int .u8) _ A38 y229.length y229 := (by rw [hA38]; exact hr38)
                    rw [← hy38, ← hA38, ← hc38] at hcut38
                    have HR232 := Aside0.mk hr38
                    have HC232 := Aside0.mk (show y229.length ≤ c38 from by rw [hy38, hc38]; exact Nat.sub_le_sub_right (Nat.le_trans (by omega) hroom38) _)
                    clear hr38 hC38 hroom38 hi038 hsz38 hc38
                    have KY38 := Aside0.mk hy38
                    have KA38 := Aside0.mk hA38
                    clear hy38 hA38
                    replace q38 := eq_true q38
                    have hcv39 := Kd.C_string (P := Try.prog) (A := A38) (c := c38) Try.underlying22 Try.underlying5 Try.underlying9 (Kd.C_below HR232.out HB.out)
                    have hcv39q := fun n_ : Nat => Kd.C_string (P := Try.prog) (A := A38) (c := c38) Try.underlying22 Try.underlying5 Try.underlying9 (Kd.C_drewN (Kd.C_below HR232.out HB.out) n_)
                    have p233 : 0 ≤ (x12_3 : Int) := of_decide_eq_true (by first | (with_reducible assumption) | assumption)
                    have q233 : x12_3 < (y221.length : Int) := of_decide_eq_true (by first | (with_reducible assumption) | assumption)
                    obtain ⟨ad233, e233, hx233_0⟩ := Kd.at_string (Kd.R_reads' HO_8.out).2.2 x12_3 p233 q233
                    obtain rfl : ad228 = ad233 := (by injection e233)
                    replace p233 := eq_true p233
                    replace q233 := eq_true q233
                    go_wp2_with (first | (go_at_call 17; (with_reducible refine (abridgerref1_goes.calls _ _ l0 (wrap64 (x9_1 + ((rdOf ByteArray.empty y221 x12_3).size : Int))) false _ ?side1 ?side2 A32.out).mono ?_); (case side1 => repeat (first | exact (Kd.C_below HR0.out HB.out) | (with_reducible refine Kd.C_alloc ?_ _) | (with_reducible refine Kd.C_drewN ?_ _) | (with_reducible refine Kd.C_drew ?_))); (case side2 => exact HC0.out); rintro e w' ⟨rfl, ⟨nd, rfl⟩⟩; (try first | exact ⟨rfl, _, World.drewN_drewN _ _ _⟩ | exact ⟨rfl, _, Eq.trans (World.drewN_drewN _ _ _) (congrArg (World.drewN _) (Nat.add_assoc _ _ _))⟩); have hnb40 := NB226_218.out; have hnc40 := NB218_226.out; have hcz41_0 : wr.cell? ⟨gb226, 0, none⟩ = some (.int .i64 x227000_3) := (blk_cell BK226.out 0).trans rfl; have hcz41_1 : wr.cell? ⟨gb226, 1, none⟩ = some (.int .i64 x9_1) := (blk_cell BK226.out 1).trans rfl; have hcz41_2 : wr.cell? ⟨gb226, 2, none⟩ = some (.int .i64 x227002_3) := (blk_cell BK226.out 2).trans rfl; have hfz41_0 := blk_frozen BK226.out 0; have hfz41_1 := blk_frozen BK226.out 1; have hfz41_2 := blk_frozen BK226.out 2))
                    repeat (go_quiet (first | (go_at_call 17; (with_reducible refine (abridgerref1_goes.calls _ _ l0 (wrap64 (x9_1 + ((rdOf ByteArray.empty y221 x12_3).size : Int))) false _ ?side1 ?side2 A32.out).mono ?_); (case side1 => repeat (first | exact (Kd.C_below HR0.out HB.out) | (with_reducible refine Kd.C_alloc ?_ _) | (with_reducible refine Kd.C_drewN ?_ _) | (with_reducible refine Kd.C_drew ?_))); (case side2 => exact HC0.out); rintro e w' ⟨rfl, ⟨nd, rfl⟩⟩; (try first | exact ⟨rfl, _, World.drewN_drewN _ _ _⟩ | exact ⟨rfl, _, Eq.trans (World.drewN_drewN _ _ _) (congrArg (World.drewN _) (Nat.add_assoc _ _ _))⟩); have hnb40 := NB226_218.out; have hnc40 := NB218_226.out; have hcz41_0 : wr.cell? ⟨gb226, 0, none⟩ = some (.int .i64 x227000_3) := (blk_cell BK226.out 0).trans rfl; have hcz41_1 : wr.cell? ⟨gb226, 1, none⟩ = some (.int .i64 x9_1) := (blk_cell BK226.out 1).trans rfl; have hcz41_2 : wr.cell? ⟨gb226, 2, none⟩ = some (.int .i64 x227002_3) := (blk_cell BK226.out 2).trans rfl; have hfz41_0 := blk_frozen BK226.out 0; have hfz41_1 := blk_frozen BK226.out 1; have hfz41_2 := blk_frozen BK226.out 2)); try go_wp2_with (first | (go_at_call 17; (with_reducible refine (abridgerref1_goes.calls _ _ l0 (wrap64 (x9_1 + ((rdOf ByteArray.empty y221 x12_3).size : Int))) false _ ?side1 ?side2 A32.out).mono ?_); (case side1 => repeat (first | exact (Kd.C_below HR0.out HB.out) | (with_reducible refine Kd.C_alloc ?_ _) | (with_reducible refine Kd.C_drewN ?_ _) | (with_reducible refine Kd.C_drew ?_))); (case side2 => exact HC0.out); rintro e w' ⟨rfl, ⟨nd, rfl⟩⟩; (try first | exact ⟨rfl, _, World.drewN_drewN _ _ _⟩ | exact ⟨rfl, _, Eq.trans (World.drewN_drewN _ _ _) (congrArg (World.drewN _) (Nat.add_assoc _ _ _))⟩); have hnb40 := NB226_218.out; have hnc40 := NB218_226.out; have hcz41_0 : wr.cell? ⟨gb226, 0, none⟩ = some (.int .i64 x227000_3) := (blk_cell BK226.out 0).trans rfl; have hcz41_1 : wr.cell? ⟨gb226, 1, none⟩ = some (.int .i64 x9_1) := (blk_cell BK226.out 1).trans rfl; have hcz41_2 : wr.cell? ⟨gb226, 2, none⟩ = some (.int .i64 x227002_3) := (blk_cell BK226.out 2).trans rfl; have hfz41_0 := blk_frozen BK226.out 0; have hfz41_1 := blk_frozen BK226.out 1; have hfz41_2 := blk_frozen BK226.out 2)))
                    go_roundg k3
                    case measure => have := HK1.out; have := HK2.out; have := HK3.out; omega
                    case rel => exact ⟨(wrap64 (x12_3 + 1)), (wrap64 (9 + x12_3)), (wrap64 (x9_1 + ((rdOf ByteArray.empty y221 x12_3).size : Int))), (by first | rfl | (simp; done) | (simp [*]; done)), H', ⟨by have := HK1.out; have := HK2.out; have := HK3.out; omega⟩, ⟨by (with_reducible repeat (first | apply Kd.R_alloc | apply Kd.R_drewN | apply Kd.R_drew)); exact Kd.R_mono (Kd.R_far (p := ⟨gb226, 2, none⟩) (Kd.R_far (p := ⟨gb226, 0, none⟩) (Kd.R_mono HO_6.out (fun k_ hk => (⟨hk, hk⟩ : _ ∧ k_ ≠ gb226))) (fun _ hk => hk.2) (.int .i64 (wrap64 (9 + x12_3)))) (fun _ hk => hk.2) (.int .i64 (wrap64 (x9_1 + ((rdOf ByteArray.empty y221 x12_3).size : Int))))) (fun _ hk => hk.1)⟩, ⟨by (with_reducible repeat (first | apply Kd.R_alloc | apply Kd.R_drewN | apply Kd.R_drew)); exact Kd.R_mono (Kd.R_far (p := ⟨gb226, 2, none⟩) (Kd.R_far (p := ⟨gb226, 0, none⟩) (Kd.R_types HO_8.out BK226.out (by decide)) (fun _ hk => hk.2) (.int .i64 (wrap64 (9 + x12_3)))) (fun _ hk => hk.2) (.int .i64 (wrap64 (x9_1 + ((rdOf ByteArray.empty y221 x12_3).size : Int))))) (fun _ hk => trivial)⟩, ⟨by (with_reducible repeat (first | refine blk_drewN ?_ _ | refine blk_drew ?_ | refine blk_alloc ?_ _)); refine blk_far ?_ NB218_226.out _; (with_reducible repeat (first | refine blk_drewN ?_ _ | refine blk_drew ?_ | refine blk_alloc ?_ _)); refine blk_far ?_ NB218_226.out _; (with_reducible repeat (first | refine blk_drewN ?_ _ | refine blk_drew ?_ | refine blk_alloc ?_ _)); exact BK218.out⟩, ⟨by (with_reducible repeat (first | refine blk_drewN ?_ _ | refine blk_drew ?_ | refine blk_alloc ?_ _)); refine blk_put (cs := #[.int .i64 (wrap64 (9 + x12_3)), .int .i64 x9_1, .int .i64 x227002_3]) ?_ 2 _ rfl; (with_reducible repeat (first | refine blk_drewN ?_ _ | refine blk_drew ?_ | refine blk_alloc ?_ _)); refine blk_put (cs := #[.int .i64 x227000_3, .int .i64 x9_1, .int .i64 x227002_3]) ?_ 0 _ rfl; (with_reducible repeat (first | refine blk_drewN ?_ _ | refine blk_drew ?_ | refine blk_alloc ?_ _)); exact BK226.out⟩, ⟨by repeat (first | (with_reducible first | exact HB.out | apply below_alloc | apply pw_below_drewN | apply below_drew1 | refine below_set ?_ GE218.out | refine below_set ?_ GE226.out) | exact HB.out)⟩⟩
                  ·rw [if_neg c31] at H
                   have c31b0 : ((strOfNums y229).toList == (rdOf ByteArray.empty y221 x12_3).toList) = false := beq_eq_false_iff_ne.mpr c31
                   have c31b1 : ((strOfNums y229).toList != (rdOf ByteArray.empty y221 x12_3).toList) = true := bne_iff_ne.mpr c31
                   have H' := Aside0.mk H
                   clear H
                   obtain ⟨Ao42, co42, eo42⟩ := Kd.R_slice HO_8.out
                   subst eo42
                   have p228 : 0 ≤ (x12_3 : Int) := of_decide_eq_true (by first | (with_reducible assumption) | assumption)
                   have q228 : x12_3 < (y221.length : Int) := of_decide_eq_true (by first | (with_reducible assumption) | assumption)
                   obtain ⟨ad228, e228, hx228_0⟩ := Kd.at_string (Kd.R_reads' HO_8.out).2.2 x12_3 p228 q228
                   cases e228
                   replace p228 := eq_true p228
                   replace q228 := eq_true q228
                   have q43 : ((wrap64 (x9_1 + ((rdOf ByteArray.empty y221 x12_3).size : Int))) : Int) ≤ ((l0.length : Int) : Int) := of_decide_eq_true (by first | (with_reducible assumption) | assumption)
                   obtain ⟨i043, hi043, _, hsz43, _⟩ := info_parts info5
                   have hroom43 : l0.length ≤ c0 := HC0.out
                   have hC43 : Kd.C (Kd.int .u8) _ (some ad224) l0.length l0 := HR0.out
                   have ql43 : (x9_1 : Int) ≤ ((wrap64 (x9_1 + ((rdOf ByteArray.empty y221 x12_3).size : Int))) : Int) := of_decide_eq_true (by first | (with_reducible assumption) | assumption)
                   have q043 : (0 : Int) ≤ (x9_1 : Int) := of_decide_eq_true (by first | (with_reducible assumption) | assumption)
                   have hcut43 := cut_mid (P := Try.prog) 22 5 .i64 .i64 Try.underlying22 hi043 1 hsz43 (some ad224) l0.length c0 x9_1 (wrap64 (x9_1 + ((rdOf ByteArray.empty y221 x12_3).size : Int))) q043 ql43 q43 hroom43
                   have hr43 := Kd.C_mid (lo := (x9_1 : Int).toNat) (hi := ((wrap64 (x9_1 + ((rdOf ByteArray.empty y221 x12_3).size : Int))) : Int).toNat) (c := c0) hC43 (by omega) (by omega) hroom43
                   obtain ⟨A43, hA43⟩ : ∃ A1, A1 = (if c0 = (x9_1 : Int).toNat then (some ad224) else ((some ad224) : Option Addr).map (·.add ((x9_1 : Int).toNat * 1))) := ⟨_, rfl⟩
                   obtain ⟨c43, hc43⟩ : ∃ c1, c1 = c0 - (x9_1 : Int).toNat := ⟨_, rfl⟩
                   have hy43 : y229.length = ((wrap64 (x9_1 + ((rdOf ByteArray.empty y221 x12_3).size : Int))) : Int).toNat - (x9_1 : Int).toNat := (by rw [Ny229.out, List.length_drop, List.length_take] <;> omega)
                   rw [show ((l0).take ((wrap64 (x9_1 + ((rdOf ByteArray.empty y221 x12_3).size : Int))) : Int).toNat).drop (x9_1 : Int).toNat = y229 from Ny229.out.symm] at hr43
                   replace hr43 : Kd.C (Kd.int .u8) _ A43 y229.length y229 := (by rw [hA43]; exact hr43)
                   rw [← hy43, ← hA43, ← hc43] at hcut43
                   have HR232 := Aside0.mk hr43
                   have HC232 := Aside0.mk (show y229.length ≤ c43 from by rw [hy43, hc43]; exact Nat.sub_le_sub_right (Nat.le_trans (by omega) hroom43) _)
                   clear hr43 hC43 hroom43 hi043 hsz43 hc43
                   have KY43 := Aside0.mk hy43
                   have KA43 := Aside0.mk hA43
                   clear hy43 hA43
                   replace q43 := eq_true q43
                   have hcv44 := Kd.C_string (P := Try.prog) (A := A43) (c := c43) Try.underlying22 Try.underlying5 Try.underlying9 (Kd.C_below HR232.out HB.out)
                   have hcv44q := fun n_ : Nat => Kd.C_string (P := Try.prog) (A := A43) (c := c43) Try.underlying22 Try.underlying5 Try.underlying9 (Kd.C_drewN (Kd.C_below HR232.out HB.out) n_)
                   have p233 : 0 ≤ (x12_3 : Int) := of_decide_eq_true (by first | (with_reducible assumption) | assumption)
                   have q233 : x12_3 < (y221.length : Int) := of_decide_eq_true (by first | (with_reducible assumption) | assumption)
                   obtain ⟨ad233, e233, hx233_0⟩ := Kd.at_string (Kd.R_reads' HO_8.out).2.2 x12_3 p233 q233
                   obtain rfl : ad228 = ad233 := (by injection e233)
                   replace p233 := eq_true p233
                   replace q233 := eq_true q233
                   go_wp2
                   repeat (go_quiet (fail); try go_wp2)
                   go_roundg k3
                   case measure => have := HK1.out; have := HK2.out; have := HK3.out; omega
                   case rel => exact ⟨(wrap64 (x12_3 + 1)), (x227000_3), (x227002_3), (by first | rfl | (simp; done) | (simp [*]; done)), H', ⟨by have := HK1.out; have := HK2.out; have := HK3.out; omega⟩, ⟨by (with_reducible repeat (first | apply Kd.R_alloc | apply Kd.R_drewN | apply Kd.R_drew)); exact HO_6.out⟩, ⟨by (with_reducible repeat (first | apply Kd.R_alloc | apply Kd.R_drewN | apply Kd.R_drew)); exact HO_8.out⟩, ⟨by (with_reducible repeat (first | refine blk_drewN ?_ _ | refine blk_drew ?_ | refine blk_alloc ?_ _)); exact BK218.out⟩, ⟨by (with_reducible repeat (first | refine blk_drewN ?_ _ | refine blk_drew ?_ | refine blk_alloc ?_ _)); exact BK226.out⟩, ⟨by repeat (first | (with_reducible first | exact HB.out | apply below_alloc | apply pw_below_drewN | apply below_drew1 | refine below_set ?_ GE218.out | refine below_set ?_ GE226.out) | exact HB.out)⟩⟩
                 ·rw [if_neg c29] at H
                  exact absurd H (by simp)
                ·rw [if_neg c28] at H
                 exact absurd H (by simp)
               ·rw [if_neg c27] at H
                have c27b0 : decide ((wrap64 (x9_1 + ((rdOf ByteArray.empty y221 x12_3).size : Int))) ≤ (l0.length : Int)) = false := decide_eq_false c27
                clear c27
                have H' := Aside0.mk H
                clear H
                obtain ⟨Ao45, co45, eo45⟩ := Kd.R_slice HO_8.out
                subst eo45
                have p228 : 0 ≤ (x12_3 : Int) := of_decide_eq_true (by first | (with_reducible assumption) | assumption)
                have q228 : x12_3 < (y221.length : Int) := of_decide_eq_true (by first | (with_reducible assumption) | assumption)
                obtain ⟨ad228, e228, hx228_0⟩ := Kd.at_string (Kd.R_reads' HO_8.out).2.2 x12_3 p228 q228
                cases e228
                replace p228 := eq_true p228
                replace q228 := eq_true q228
                go_wp2
                repeat (go_quiet (fail); try go_wp2)
                go_roundg k3
                case measure => have := HK1.out; have := HK2.out; have := HK3.out; omega
                case rel => exact ⟨(wrap64 (x12_3 + 1)), (x227000_3), (x227002_3), (by first | rfl | (simp; done) | (simp [*]; done)), H', ⟨by have := HK1.out; have := HK2.out; have := HK3.out; omega⟩, ⟨by (with_reducible repeat (first | apply Kd.R_alloc | apply Kd.R_drewN | apply Kd.R_drew)); exact HO_6.out⟩, ⟨by (with_reducible repeat (first | apply Kd.R_alloc | apply Kd.R_drewN | apply Kd.R_drew)); exact HO_8.out⟩, ⟨by (with_reducible repeat (first | refine blk_drewN ?_ _ | refine blk_drew ?_ | refine blk_alloc ?_ _)); exact BK218.out⟩, ⟨by (with_reducible repeat (first | refine blk_drewN ?_ _ | refine blk_drew ?_ | refine blk_alloc ?_ _)); exact BK226.out⟩, ⟨by repeat (first | (with_reducible first | exact HB.out | apply below_alloc | apply pw_below_drewN | apply below_drew1 | refine below_set ?_ GE218.out | refine below_set ?_ GE226.out) | exact HB.out)⟩⟩
              ·rw [if_neg c26] at H
               exact absurd H (by simp)
             ·rw [if_neg c25] at H
              have c25b0 : decide (x12_3 < (y221.length : Int)) = false := decide_eq_false c25
              clear c25
              by_cases c46 : 0 ≤ x9_1
              ·rw [if_pos c46] at H
               have c46b0 : decide (0 ≤ x9_1) = true := decide_eq_true c46
               clear c46
               by_cases c47 : x9_1 < (l0.length : Int)
               ·rw [if_pos c47] at H
                have c47b0 : decide (x9_1 < (l0.length : Int)) = true := decide_eq_true c47
                clear c47
                by_cases c48 : (rd l0 x9_1) = 34
                ·rw [if_pos c48] at H
                 have c48b0 : ((rd l0 x9_1) == 34) = true := beq_iff_eq.mpr c48
                 have c48b1 : ((rd l0 x9_1) != 34) = false := bne_eq_false_iff_eq.mpr c48
                 clear c48
                 replace H := Option.bind_eq_some_iff.mp H
                 obtain ⟨t236, A490, H⟩ := H
                 replace H : (if t236 < 0 then (some (([] : List (S31)), 3, x9_1)) else (if x6_1.length < 5864062014805 then (abridgerref1_Jlex.l0 k3 l0 (x6_1 ++ [(⟨7, x9_1, t236⟩ : S31)]) (⟨#[123, 125, 91, 93, 58, 44]⟩ : ByteArray) y221 t236) else (none))) = some (r1, r2, r3) := H
                 have A49 := Aside0.mk A490
                 clear A490
                 by_cases c50 : t236 < 0
                 ·rw [if_pos c50] at H
                  have c50b0 : decide (t236 < 0) = true := decide_eq_true c50
                  clear c50
                  simp only [Option.some.injEq, Prod.mk.injEq] at H
                  obtain ⟨rfl, rfl, rfl⟩ := H
                  obtain ⟨Ao51, co51, eo51⟩ := Kd.R_slice HO_8.out
                  subst eo51
                  have p235 : 0 ≤ (x9_1 : Int) := of_decide_eq_true (by first | (with_reducible assumption) | assumption)
                  have q235 : x9_1 < (l0.length : Int) := of_decide_eq_true (by first | (with_reducible assumption) | assumption)
                  obtain ⟨ad235, e235, hx235_0⟩ := Kd.at_int HR0.out x9_1 p235 q235
                  obtain rfl : ad224 = ad235 := (by injection e235)
                  replace hx235_0 := (HB.out.cell (World.block_lt_of_cell? w _ hx235_0)).trans hx235_0
                  replace p235 := eq_true p235
                  replace q235 := eq_true q235
                  have hnb52 := NB226_218.out
                  have hnc52 := NB218_226.out
                  have hcz53_0 : wr.cell? ⟨gb226, 0, none⟩ = some (.int .i64 x227000_3) := (blk_cell BK226.out 0).trans rfl
                  have hcz53_1 : wr.cell? ⟨gb226, 1, none⟩ = some (.int .i64 x9_1) := (blk_cell BK226.out 1).trans rfl
                  have hcz53_2 : wr.cell? ⟨gb226, 2, none⟩ = some (.int .i64 x227002_3) := (blk_cell BK226.out 2).trans rfl
                  have hfz53_0 := blk_frozen BK226.out 0
                  have hfz53_1 := blk_frozen BK226.out 1
                  have hfz53_2 := blk_frozen BK226.out 2
                  go_wp2_with (first | (go_at_call 18; (with_reducible refine (abridgerref1_jtext.calls k3 _ _ l0 x9_1 t236 _ ?side1 ?side2 A49.out).mono ?_); (case side1 => exact Kd.C_below HR0.out (by repeat (first | (with_reducible first | exact HB.out | apply below_alloc | apply pw_below_drewN | apply below_drew1 | refine below_set ?_ GE218.out | refine below_set ?_ GE226.out) | exact HB.out))); (case side2 => exact HC0.out); rintro e w' ⟨rfl, ⟨nd, rfl⟩⟩; (try first | exact ⟨rfl, _, World.drewN_drewN _ _ _⟩ | exact ⟨rfl, _, Eq.trans (World.drewN_drewN _ _ _) (congrArg (World.drewN _) (Nat.add_assoc _ _ _))⟩); have hcz54_0 : wr.cell? ⟨gb218, 0, none⟩ = some (.int .i64 x219000_1) := (blk_cell BK218.out 0).trans rfl; have hcz54_1 : wr.cell? ⟨gb218, 1, none⟩ = some (.int .i64 x219001_1) := (blk_cell BK218.out 1).trans rfl; have hfz54_0 := blk_frozen BK218.out 0; have hfz54_1 := blk_frozen BK218.out 1))
                  repeat (go_quiet (fail); try go_wp2)
                  refine bodyPost_ret (results_tc rfl _ _ gb218 27 #[.int .i64 3, .int .i64 x9_1] (0, 0) _ rfl (by (with_reducible repeat (first | refine blk_drewN ?_ _ | refine blk_drew ?_ | refine blk_alloc ?_ _)); refine blk_put (cs := #[.int .i64 3, .int .i64 x219001_1]) ?_ 1 _ rfl; (with_reducible repeat (first | refine blk_drewN ?_ _ | refine blk_drew ?_ | refine blk_alloc ?_ _)); refine blk_put (cs := #[.int .i64 x219000_1, .int .i64 x219001_1]) ?_ 0 _ rfl; (with_reducible repeat (first | refine blk_drewN ?_ _ | refine blk_drew ?_ | refine blk_alloc ?_ _)); refine blk_far ?_ NB218_226.out _; (with_reducible repeat (first | refine blk_drewN ?_ _ | refine blk_drew ?_ | refine blk_alloc ?_ _)); refine blk_far ?_ NB218_226.out _; (with_reducible repeat (first | refine blk_drewN ?_ _ | refine blk_drew ?_ | refine blk_alloc ?_ _)); exact BK218.out) Try.underlying27 rfl (by kernel_rfl)) rfl ?_
                  exact ⟨_, by first | rfl | (simp [errW_none, errW_some] <;> rfl) | (simp [*, errW_none, errW_some] <;> rfl), by first | exact Kd.R_nil _ _ _ _ _ | exact Kd.N_nil _ _ _ _ _ | exact Kd.V_nil _ _ _ _ _ | exact Kd.Q_nil _ _ _ _ _ | exact Kd.S_nil _ _ _ _ _, by repeat (first | (with_reducible first | exact HB.out | apply below_alloc | apply pw_below_drewN | apply below_drew1 | refine below_set ?_ GE218.out | refine below_set ?_ GE226.out) | exact HB.out)⟩
                 ·rw [if_neg c50] at H
                  have c50b0 : decide (t236 < 0) = false := decide_eq_false c50
                  clear c50
                  by_cases c55 : x6_1.length < 5864062014805
                  ·rw [if_pos c55] at H
                   have LMc55 := Aside0.mk c55
                   clear c55
                   obtain ⟨y237, hy237⟩ : ∃ y_ : List (S31), y_ = (x6_1 ++ [(⟨7, x9_1, t236⟩ : S31)]) := ⟨_, rfl⟩
                   replace H : (abridgerref1_Jlex.l0 k3 l0 y237 (⟨#[123, 125, 91, 93, 58, 44]⟩ : ByteArray) y221 t236) = some (r1, r2, r3) := by first | (rw [hy237]; with_reducible exact H) | (have H2_ := (Option.bind_some _ _).symm.trans H; rw [hy237]; with_reducible exact H2_) | (have H2_ := (Option.bind_some _ _).symm.trans H; with_reducible exact H2_) | with_reducible exact H | (rw [hy237]; exact H) | exact H
                   have Ny237 := Aside0.mk hy237
                   clear hy237
                   have H' := Aside0.mk H
                   clear H
                   obtain ⟨Ao56, co56, eo56⟩ := Kd.R_slice HO_8.out
                   subst eo56
                   have p235 : 0 ≤ (x9_1 : Int) := of_decide_eq_true (by first | (with_reducible assumption) | assumption)
                   have q235 : x9_1 < (l0.length : Int) := of_decide_eq_true (by first | (with_reducible assumption) | assumption)
                   obtain ⟨ad235, e235, hx235_0⟩ := Kd.at_int HR0.out x9_1 p235 q235
                   obtain rfl : ad224 = ad235 := (by injection e235)
                   replace hx235_0 := (HB.out.cell (World.block_lt_of_cell? w _ hx235_0)).trans hx235_0
                   replace p235 := eq_true p235
                   replace q235 := eq_true q235
                   have hnb57 := NB226_218.out
                   have hnc57 := NB218_226.out
                   have hcz58_0 : wr.cell? ⟨gb226, 0, none⟩ = some (.int .i64 x227000_3) := (blk_cell BK226.out 0).trans rfl
                   have hcz58_1 : wr.cell? ⟨gb226, 1, none⟩ = some (.int .i64 x9_1) := (blk_cell BK226.out 1).trans rfl
                   have hcz58_2 : wr.cell? ⟨gb226, 2, none⟩ = some (.int .i64 x227002_3) := (blk_cell BK226.out 2).trans rfl
                   have hfz58_0 := blk_frozen BK226.out 0
                   have hfz58_1 := blk_frozen BK226.out 1
                   have hfz58_2 := blk_frozen BK226.out 2
                   go_wp2_with (first | (go_at_call 18; (with_reducible refine (abridgerref1_jtext.calls k3 _ _ l0 x9_1 t236 _ ?side1 ?side2 A49.out).mono ?_); (case side1 => exact Kd.C_below HR0.out (by repeat (first | (with_reducible first | exact HB.out | apply below_alloc | apply pw_below_drewN | apply below_drew1 | refine below_set ?_ GE218.out | refine below_set ?_ GE226.out) | exact HB.out))); (case side2 => exact HC0.out); rintro e w' ⟨rfl, ⟨nd, rfl⟩⟩; (try first | exact ⟨rfl, _, World.drewN_drewN _ _ _⟩ | exact ⟨rfl, _, Eq.trans (World.drewN_drewN _ _ _) (congrArg (World.drewN _) (Nat.add_assoc _ _ _))⟩)) | ((with_reducible refine gate_builtin (b := .append) (xs := #[(.tmp 142), (.tmp 144)]) rfl ?_); at_builtin; refine Kd.R_append k31 (w0 := w) w.heap.size rfl (.tmp 142) (.tmp 144) 24 31 (.agg #[(.int .i64 0), (.int .i64 0), (.int .i64 0)]) 24 rfl Try.underlying24 info31 rfl (by decide) (by omega) u6 x6_1 (⟨7, x9_1, t236⟩ : S31) [.int .i64 7, .int .i64 x9_1, .int .i64 t236] (fun k_ => k_ ≠ gb226) (fun _ => False) rfl (by first | (go_simp; done) | (go_simp; rfl)) ?aP (fun _ hk => hk.elim) ?aF ?aO ?aB ?aS ?aL ?_; (case aP => exact k31_mkM _ _ _ (⟨7, x9_1, t236⟩ : S31)); (case aB => exact (by repeat (first | (with_reducible first | exact HB.out | apply below_alloc | apply pw_below_drewN | apply below_drew1 | refine below_set ?_ GE218.out | refine below_set ?_ GE226.out) | exact HB.out))); (case aF => exact (fun k_ hk => Kd.freshB (g := gb226) (o := .cells #[.int .i64 7, .int .i64 x9_1, .int .i64 t236] 31 (0, 0)) (by (with_reducible repeat (first | refine blk_drewN ?_ _ | refine blk_drew ?_ | refine blk_alloc ?_ _)); refine blk_put (cs := #[.int .i64 7, .int .i64 x9_1, .int .i64 x227002_3]) ?_ 2 _ rfl; (with_reducible repeat (first | refine blk_drewN ?_ _ | refine blk_drew ?_ | refine blk_alloc ?_ _)); refine blk_put (cs := #[.int .i64 x227000_3, .int .i64 x9_1, .int .i64 x227002_3]) ?_ 0 _ rfl; (with_reducible repeat (first | refine blk_drewN ?_ _ | refine blk_drew ?_ | refine blk_alloc ?_ _)); exact BK226.out) k_ hk)); (case aO => exact (by (with_reducible repeat (first | apply Kd.R_alloc | apply Kd.R_drewN | apply Kd.R_drew)); exact Kd.R_mono (Kd.R_far (p := ⟨gb226, 2, none⟩) (Kd.R_far (p := ⟨gb226, 0, none⟩) (Kd.R_mono HO_6.out (fun k_ hk => (⟨hk, hk⟩ : _ ∧ k_ ≠ gb226))) (fun _ hk => hk.2) (.int .i64 7)) (fun _ hk => hk.2) (.int .i64 t236)) (fun _ hk => hk.1))); (case aS => exact (below_size (by repeat (first | (with_reducible first | exact HB.out | apply below_alloc | apply pw_below_drewN | apply below_drew1 | refine below_set ?_ GE218.out | refine below_set ?_ GE226.out) | exact HB.out)))); (case aL => have := LMc55.out; omega); intro v238 w59 ho hb hg hat; rw [← Ny237.out] at ho; have n0_ := Aside0.mk (Kd.R_over' (by (with_reducible repeat (first | apply Kd.R_alloc | apply Kd.R_drewN | apply Kd.R_drew)); exact (Kd.R_mono (Kd.R_far (p := ⟨gb226, 2, none⟩) (Kd.R_far (p := ⟨gb226, 0, none⟩) (Kd.R_types HO_8.out BK226.out (by decide)) (fun _ hk => hk.2) (.int .i64 7)) (fun _ hk => hk.2) (.int .i64 t236)) (fun _ h_ => h_.1))) (Kd.R_typed (by (with_reducible repeat (first | apply Kd.R_alloc | apply Kd.R_drewN | apply Kd.R_drew)); exact (Kd.R_mono (Kd.R_far (p := ⟨gb226, 2, none⟩) (Kd.R_far (p := ⟨gb226, 0, none⟩) (Kd.R_mono HO_6.out (fun k_ hk => (⟨hk, hk⟩ : _ ∧ k_ ≠ gb226))) (fun _ hk => hk.2) (.int .i64 7)) (fun _ hk => hk.2) (.int .i64 t236)) (fun _ h_ => h_.1)))) (by decide) hg); have n1_ := Aside0.mk (blk_grown (g := gb218) (o := .cells #[.int .i64 x219000_1, .int .i64 x219001_1] 27 (0, 0)) (by (with_reducible repeat (first | refine blk_drewN ?_ _ | refine blk_drew ?_ | refine blk_alloc ?_ _)); refine blk_far ?_ NB218_226.out _; (with_reducible repeat (first | refine blk_drewN ?_ _ | refine blk_drew ?_ | refine blk_alloc ?_ _)); refine blk_far ?_ NB218_226.out _; (with_reducible repeat (first | refine blk_drewN ?_ _ | refine blk_drew ?_ | refine blk_alloc ?_ _)); exact BK218.out) hg (Kd.R_ne HO_6.out BK218.out (by decide))); have n2_ := Aside0.mk (blk_grown (g := gb226) (o := .cells #[.int .i64 7, .int .i64 x9_1, .int .i64 t236] 31 (0, 0)) (by (with_reducible repeat (first | refine blk_drewN ?_ _ | refine blk_drew ?_ | refine blk_alloc ?_ _)); refine blk_put (cs := #[.int .i64 7, .int .i64 x9_1, .int .i64 x227002_3]) ?_ 2 _ rfl; (with_reducible repeat (first | refine blk_drewN ?_ _ | refine blk_drew ?_ | refine blk_alloc ?_ _)); refine blk_put (cs := #[.int .i64 x227000_3, .int .i64 x9_1, .int .i64 x227002_3]) ?_ 0 _ rfl; (with_reducible repeat (first | refine blk_drewN ?_ _ | refine blk_drew ?_ | refine blk_alloc ?_ _)); exact BK226.out) hg (Kd.R_away HO_6.out (fun _ hk => hk))); have n3_ := Aside0.mk (hb); have n4_ := Aside0.mk (ho); clear HO_8; clear BK218; clear BK226; clear HB; clear HO_6; have HO_8 := n0_; have BK218 := n1_; have BK226 := n2_; have HB := n3_; have HO239 := n4_; clear n0_ n1_ n2_ n3_ n4_; clear ho hb hg hat; have hcz60_0 : w59.cell? ⟨gb226, 0, none⟩ = some (.int .i64 7) := (blk_cell BK226.out 0).trans rfl; have hcz60_1 : w59.cell? ⟨gb226, 1, none⟩ = some (.int .i64 x9_1) := (blk_cell BK226.out 1).trans rfl; have hcz60_2 : w59.cell? ⟨gb226, 2, none⟩ = some (.int .i64 t236) := (blk_cell BK226.out 2).trans rfl; have hfz60_0 := blk_frozen BK226.out 0; have hfz60_1 := blk_frozen BK226.out 1; have hfz60_2 := blk_frozen BK226.out 2))
                   repeat (go_quiet (fail); try go_wp2)
                   go_roundg k3
                   case measure => have := HK1.out; have := HK2.out; have := HK3.out; omega
                   case rel => exact ⟨(y237), (t236), (x219000_1), (x219001_1), (by first | rfl | (simp; done) | (simp [*]; done)), H', ⟨by have := HK1.out; have := HK2.out; have := HK3.out; omega⟩, ⟨by (with_reducible repeat (first | apply Kd.R_alloc | apply Kd.R_drewN | apply Kd.R_drew)); exact Kd.R_mono HO239.out (fun _ hk => trivial)⟩, ⟨by (with_reducible repeat (first | apply Kd.R_alloc | apply Kd.R_drewN | apply Kd.R_drew)); exact HO_8.out⟩, ⟨by (with_reducible repeat (first | refine blk_drewN ?_ _ | refine blk_drew ?_ | refine blk_alloc ?_ _)); exact BK218.out⟩, ⟨by repeat (first | (with_reducible first | exact HB.out | apply below_alloc | apply pw_below_drewN | apply below_drew1 | refine below_set ?_ GE218.out | refine below_set ?_ GE226.out) | exact HB.out)⟩⟩
                  ·rw [if_neg c55] at H
                   exact absurd H (by simp)
                ·rw [if_neg c48] at H
                 have c48b0 : ((rd l0 x9_1) == 34) = false := beq_eq_false_iff_ne.mpr c48
                 have c48b1 : ((rd l0 x9_1) != 34) = true := bne_iff_ne.mpr c48
                 have HC61 := Aside0.mk H
                 clear H
                 obtain ⟨Ao62, co62, eo62⟩ := Kd.R_slice HO_8.out
                 subst eo62
                 have p235 : 0 ≤ (x9_1 : Int) := of_decide_eq_true (by first | (with_reducible assumption) | assumption)
                 have q235 : x9_1 < (l0.length : Int) := of_decide_eq_true (by first | (with_reducible assumption) | assumption)
                 obtain ⟨ad235, e235, hx235_0⟩ := Kd.at_int HR0.out x9_1 p235 q235
                 obtain rfl : ad224 = ad235 := (by injection e235)
                 replace hx235_0 := (HB.out.cell (World.block_lt_of_cell? w _ hx235_0)).trans hx235_0
                 replace p235 := eq_true p235
                 replace q235 := eq_true q235
                 go_upto_region 30 with (fail)
                 repeat (go_quiet (fail); go_upto_region 30 with (fail))
                 go_cut [112] (fun v112 wc => ∃ (kq : Nat) (x112_60 : Bool), v112 = .bool x112_60 ∧ Aside0 (abridgerref1_Jlex.j3 kq l0 x6_1 (⟨#[123, 125, 91, 93, 58, 44]⟩ : ByteArray) y221 x9_1 x112_60 x227000_3 x9_1 x227002_3 = some (r1, r2, r3)) ∧ Aside0 (kq ≤ k3) ∧ Aside0 (Kd.R k31 31 wc w.heap.size (fun k_ => k_ ≠ gb226) u6 x6_1) ∧ Aside0 (Kd.R Kd.string 9 wc w.heap.size (fun _ => True) (.slice Ao62 y221.length co62) y221) ∧ Aside0 (wc.heap[gb218]? = some (.cells #[.int .i64 x219000_1, .int .i64 x219001_1] 27 (0, 0))) ∧ Aside0 (wc.heap[gb226]? = some (.cells #[.int .i64 x227000_3, .int .i64 x9_1, .int .i64 x227002_3] 31 (0, 0))) ∧ Aside0 (Below w.heap.size w wc))
                 case first =>
                  have H := HC61.out
                  clear HC61
                  by_cases c63 : (rd l0 x9_1) = 45
                  ·rw [if_pos c63] at H
                   have c63b0 : ((rd l0 x9_1) == 45) = true := beq_iff_eq.mpr c63
                   have c63b1 : ((rd l0 x9_1) != 45) = false := bne_eq_false_iff_eq.mpr c63
                   clear c63
                   (first | rw [c63b0] | (simp only [i64_w, i32_w]; rw [c63b0]) | skip)
                   have H' := Aside0.mk H
                   clear H
                   have p240 : 0 ≤ (x9_1 : Int) := of_decide_eq_true (by first | (with_reducible assumption) | assumption)
                   have q240 : x9_1 < (l0.length : Int) := of_decide_eq_true (by first | (with_reducible assumption) | assumption)
                   obtain ⟨ad240, e240, hx240_0⟩ := Kd.at_int HR0.out x9_1 p240 q240
                   obtain rfl : ad224 = ad240 := (by injection e240)
                   replace hx240_0 := (HB.out.cell (World.block_lt_of_cell? w _ hx240_0)).trans hx240_0
                   replace p240 := eq_true p240
                   replace q240 := eq_true q240
                   go_wp2
                   repeat (go_quiet (fail); try go_wp2)
                   go_meet
                   case rel => exact ⟨_, (true), (by first | rfl | (simp; done) | (simp [*]; done)), H', ⟨by have := HK1.out; have := HK2.out; have := HK3.out; first | omega | exact Nat.le_refl _⟩, ⟨by (with_reducible repeat (first | apply Kd.R_alloc | apply Kd.R_drewN | apply Kd.R_drew)); exact HO_6.out⟩, ⟨by (with_reducible repeat (first | apply Kd.R_alloc | apply Kd.R_drewN | apply Kd.R_drew)); exact HO_8.out⟩, ⟨by (with_reducible repeat (first | refine blk_drewN ?_ _ | refine blk_drew ?_ | refine blk_alloc ?_ _)); exact BK218.out⟩, ⟨by (with_reducible repeat (first | refine blk_drewN ?_ _ | refine blk_drew ?_ | refine blk_alloc ?_ _)); exact BK226.out⟩, ⟨by repeat (first | (with_reducible first | exact HB.out | apply below_alloc | apply pw_below_drewN | apply below_drew1 | refine below_set ?_ GE218.out | refine below_set ?_ GE226.out) | exact HB.out)⟩⟩
                  ·rw [if_neg c63] at H
                   have c63b0 : ((rd l0 x9_1) == 45) = false := beq_eq_false_iff_ne.mpr c63
                   have c63b1 : ((rd l0 x9_1) != 45) = true := bne_iff_ne.mpr c63
                   (first | rw [c63b0] | (simp only [i64_w, i32_w]; rw [c63b0]) | skip)
                   by_cases c64 : (rd l0 x9_1) ≥ 48
                   ·rw [if_pos c64] at H
                    have c64b0 : decide (48 ≤ (rd l0 x9_1)) = true := decide_eq_true c64
                    clear c64
                    have H' := Aside0.mk H
                    clear H
                    have p240 : 0 ≤ (x9_1 : Int) := of_decide_eq_true (by first | (with_reducible assumption) | assumption)
                    have q240 : x9_1 < (l0.length : Int) := of_decide_eq_true (by first | (with_reducible assumption) | assumption)
                    obtain ⟨ad240, e240, hx240_0⟩ := Kd.at_int HR0.out x9_1 p240 q240
                    obtain rfl : ad224 = ad240 := (by injection e240)
                    replace hx240_0 := (HB.out.cell (World.block_lt_of_cell? w _ hx240_0)).trans hx240_0
                    replace p240 := eq_true p240
                    replace q240 := eq_true q240
                    have p241 : 0 ≤ (x9_1 : Int) := of_decide_eq_true (by first | (with_reducible assumption) | assumption)
                    have q241 : x9_1 < (l0.length : Int) := of_decide_eq_true (by first | (with_reducible assumption) | assumption)
                    obtain ⟨ad241, e241, hx241_0⟩ := Kd.at_int HR0.out x9_1 p241 q241
                    obtain rfl : ad224 = ad241 := (by injection e241)
                    replace hx241_0 := (HB.out.cell (World.block_lt_of_cell? w _ hx241_0)).trans hx241_0
                    replace p241 := eq_true p241
                    replace q241 := eq_true q241
                    have p242 : 0 ≤ (x9_1 : Int) := of_decide_eq_true (by first | (with_reducible assumption) | assumption)
                    have q242 : x9_1 < (l0.length : Int) := of_decide_eq_true (by first | (with_reducible assumption) | assumption)
                    obtain ⟨ad242, e242, hx242_0⟩ := Kd.at_int HR0.out x9_1 p242 q242
                    obtain rfl : ad224 = ad242 := (by injection e242)
                    replace hx242_0 := (HB.out.cell (World.block_lt_of_cell? w _ hx242_0)).trans hx242_0
                    replace p242 := eq_true p242
                    replace q242 := eq_true q242
                    go_wp2
                    repeat (go_quiet (fail); try go_wp2)
                    go_meet
                    case rel => exact ⟨_, (decide ((rd l0 x9_1) ≤ 57)), (by first | rfl | (simp; done) | (simp [*]; done)), H', ⟨by have := HK1.out; have := HK2.out; have := HK3.out; first | omega | exact Nat.le_refl _⟩, ⟨by (with_reducible repeat (first | apply Kd.R_alloc | apply Kd.R_drewN | apply Kd.R_drew)); exact HO_6.out⟩, ⟨by (with_reducible repeat (first | apply Kd.R_alloc | apply Kd.R_drewN | apply Kd.R_drew)); exact HO_8.out⟩, ⟨by (with_reducible repeat (first | refine blk_drewN ?_ _ | refine blk_drew ?_ | refine blk_alloc ?_ _)); exact BK218.out⟩, ⟨by (with_reducible repeat (first | refine blk_drewN ?_ _ | refine blk_drew ?_ | refine blk_alloc ?_ _)); exact BK226.out⟩, ⟨by repeat (first | (with_reducible first | exact HB.out | apply below_alloc | apply pw_below_drewN | apply below_drew1 | refine below_set ?_ GE218.out | refine below_set ?_ GE226.out) | exact HB.out)⟩⟩
                   ·rw [if_neg c64] at H
                    have c64b0 : decide (48 ≤ (rd l0 x9_1)) = false := decide_eq_false c64
                    clear c64
                    have H' := Aside0.mk H
                    clear H
                    have p240 : 0 ≤ (x9_1 : Int) := of_decide_eq_true (by first | (with_reducible assumption) | assumption)
                    have q240 : x9_1 < (l0.length : Int) := of_decide_eq_true (by first | (with_reducible assumption) | assumption)
                    obtain ⟨ad240, e240, hx240_0⟩ := Kd.at_int HR0.out x9_1 p240 q240
                    obtain rfl : ad224 = ad240 := (by injection e240)
                    replace hx240_0 := (HB.out.cell (World.block_lt_of_cell? w _ hx240_0)).trans hx240_0
                    replace p240 := eq_true p240
                    replace q240 := eq_true q240
                    have p241 : 0 ≤ (x9_1 : Int) := of_decide_eq_true (by first | (with_reducible assumption) | assumption)
                    have q241 : x9_1 < (l0.length : Int) := of_decide_eq_true (by first | (with_reducible assumption) | assumption)
                    obtain ⟨ad241, e241, hx241_0⟩ := Kd.at_int HR0.out x9_1 p241 q241
                    obtain rfl : ad224 = ad241 := (by injection e241)
                    replace hx241_0 := (HB.out.cell (World.block_lt_of_cell? w _ hx241_0)).trans hx241_0
                    replace p241 := eq_true p241
                    replace q241 := eq_true q241
                    go_wp2
                    repeat (go_quiet (fail); try go_wp2)
                    go_meet
                    case rel => exact ⟨_, (false), (by first | rfl | (simp; done) | (simp [*]; done)), H', ⟨by have := HK1.out; have := HK2.out; have := HK3.out; first | omega | exact Nat.le_refl _⟩, ⟨by (with_reducible repeat (first | apply Kd.R_alloc | apply Kd.R_drewN | apply Kd.R_drew)); exact HO_6.out⟩, ⟨by (with_reducible repeat (first | apply Kd.R_alloc | apply Kd.R_drewN | apply Kd.R_drew)); exact HO_8.out⟩, ⟨by (with_reducible repeat (first | refine blk_drewN ?_ _ | refine blk_drew ?_ | refine blk_alloc ?_ _)); exact BK218.out⟩, ⟨by (with_reducible repeat (first | refine blk_drewN ?_ _ | refine blk_drew ?_ | refine blk_alloc ?_ _)); exact BK226.out⟩, ⟨by repeat (first | (with_reducible first | exact HB.out | apply below_alloc | apply pw_below_drewN | apply below_drew1 | refine below_set ?_ GE218.out | refine below_set ?_ GE226.out) | exact HB.out)⟩⟩
                 case rest =>
                  clear HC61
                  try clear c1
                  try clear p1
                  try clear q1
                  try clear hx1
                  try clear c2
                  try clear c2b0
                  try clear c2b1
                  try clear p2
                  try clear q2
                  try clear hx2
                  try clear c3
                  try clear q3
                  try clear hcv3
                  try clear c4
                  try clear q4
                  try clear hcv4
                  try clear c5
                  try clear c6
                  try clear p6
                  try clear c10
                  try clear c10b0
                  try clear c11
                  try clear c11b0
                  try clear c13
                  try clear c15
                  try clear c17
                  try clear c17b0
                  try clear c18
                  try clear c18b0
                  try clear p19
                  try clear q19
                  try clear hx19
                  try clear c20
                  try clear c20b0
                  try clear c21
                  try clear c21b0
                  try clear c22
                  try clear c22b0
                  try clear c22b1
                  try clear p22
                  try clear q22
                  try clear hx22
                  try clear c23
                  try clear p23
                  try clear q23
                  try clear hx23
                  try clear p24
                  try clear q24
                  try clear hx24
                  try clear c25
                  try clear c25b0
                  try clear c26
                  try clear c26b0
                  try clear c27
                  try clear c27b0
                  try clear c28
                  try clear c28b0
                  try clear c28b1
                  try clear c29
                  try clear c29b0
                  try clear c29b1
                  try clear c30
                  try clear c30b0
                  try clear c31
                  try clear c31b0
                  try clear c31b1
                  try clear c33
                  try clear c35
                  try clear q35
                  try clear hcv36
                  try clear c38
                  try clear q38
                  try clear hcv39
                  try clear c40
                  try clear c43
                  try clear q43
                  try clear hcv44
                  try clear c46
                  try clear c46b0
                  try clear c47
                  try clear c47b0
                  try clear c48
                  try clear c48b0
                  try clear c48b1
                  try clear c50
                  try clear c50b0
                  try clear c52
                  try clear c55
                  try clear c57
                  try clear c63
                  try clear c63b0
                  try clear c63b1
                  try clear c64
                  try clear c64b0
                  try clear p64
                  try clear hcz16_0
                  try clear hcz16_1
                  try clear hcz16_2
                  try clear hcz24_0
                  try clear hcz24_1
                  try clear hcz24_2
                  try clear hcz41_0
                  try clear hcz41_1
                  try clear hcz41_2
                  try clear hcz4_0
                  try clear hcz4_1
                  try clear hcz53_0
                  try clear hcz53_1
                  try clear hcz53_2
                  try clear hcz54_0
                  try clear hcz54_1
                  try clear hcz58_0
                  try clear hcz58_1
                  try clear hcz58_2
                  try clear hcz60_0
                  try clear hcz60_1
                  try clear hcz60_2
                  try clear hfz16_0
                  try clear hfz16_1
                  try clear hfz16_2
                  try clear hfz24_0
                  try clear hfz24_1
                  try clear hfz24_2
                  try clear hfz41_0
                  try clear hfz41_1
                  try clear hfz41_2
                  try clear hfz4_0
                  try clear hfz4_1
                  try clear hfz53_0
                  try clear hfz53_1
                  try clear hfz53_2
                  try clear hfz54_0
                  try clear hfz54_1
                  try clear hfz58_0
                  try clear hfz58_1
                  try clear hfz58_2
                  try clear hfz60_0
                  try clear hfz60_1
                  try clear hfz60_2
                  try clear hx224_0
                  try clear hx227_0
                  try clear hx228_0
                  try clear hx233_0
                  try clear hx235_0
                  try clear hx240_0
                  try clear hx241_0
                  try clear hx242_0
                  try clear p1
                  try clear p19
                  try clear p2
                  try clear p22
                  try clear p224
                  try clear p227
                  try clear p228
                  try clear p233
                  try clear p235
                  try clear p240
                  try clear p241
                  try clear p242
                  try clear p6
                  try clear q035
                  try clear q038
                  try clear q043
                  try clear q1
                  try clear q19
                  try clear q2
                  try clear q22
                  try clear q224
                  try clear q227
                  try clear q228
                  try clear q233
                  try clear q235
                  try clear q240
                  try clear q241
                  try clear q242
                  try clear q35
                  try clear q38
                  try clear q43
                  obtain ⟨kq, x112_60, rfl, HA, HJ60, HO_6, HO_8, BK218, BK226, HB⟩ := hcut
                  cases kq with
                  | zero => exact absurd HA.out (by simp [abridgerref1_Jlex.j3])
                  | succ kj60 =>
                   have H := HA.out
                   clear HA
                   simp only [abridgerref1_Jlex.j3] at H
                   by_cases c65 : x112_60 = true
                   ·subst c65
                    have H1 : ((abridgerref1_jnumber.f kj60 l0 x9_1).bind fun t243 => (if t243 < 0 then (some (([] : List (S31)), 3, x9_1)) else (if x6_1.length < 5864062014805 then (abridgerref1_Jlex.l0 kj60 l0 (x6_1 ++ [(⟨8, x9_1, t243⟩ : S31)]) (⟨#[123, 125, 91, 93, 58, 44]⟩ : ByteArray) y221 t243) else (none)))) = some (r1, r2, r3) := by rw [if_pos rfl] at H; exact H
                    clear H
                    have H := H1
                    clear H1
                    replace H := Option.bind_eq_some_iff.mp H
                    obtain ⟨t243, A660, H⟩ := H
                    replace H : (if t243 < 0 then (some (([] : List (S31)), 3, x9_1)) else (if x6_1.length < 5864062014805 then (abridgerref1_Jlex.l0 kj60 l0 (x6_1 ++ [(⟨8, x9_1, t243⟩ : S31)]) (⟨#[123, 125, 91, 93, 58, 44]⟩ : ByteArray) y221 t243) else (none))) = some (r1, r2, r3) := H
                    have A66 := Aside0.mk A660
                    clear A660
                    by_cases c67 : t243 < 0
                    ·rw [if_pos c67] at H
                     have c67b0 : decide (t243 < 0) = true := decide_eq_true c67
                     clear c67
                     simp only [Option.some.injEq, Prod.mk.injEq] at H
                     obtain ⟨rfl, rfl, rfl⟩ := H
                     have hnb68 := NB226_218.out
                     have hnc68 := NB218_226.out
                     have hcz69_0 : wc.cell? ⟨gb226, 0, none⟩ = some (.int .i64 x227000_3) := (blk_cell BK226.out 0).trans rfl
                     have hcz69_1 : wc.cell? ⟨gb226, 1, none⟩ = some (.int .i64 x9_1) := (blk_cell BK226.out 1).trans rfl
                     have hcz69_2 : wc.cell? ⟨gb226, 2, none⟩ = some (.int .i64 x227002_3) := (blk_cell BK226.out 2).trans rfl
                     have hfz69_0 := blk_frozen BK226.out 0
                     have hfz69_1 := blk_frozen BK226.out 1
                     have hfz69_2 := blk_frozen BK226.out 2
                     go_wp2_with (first | (go_at_call 19; (with_reducible refine (abridgerref1_jnumber.calls kj60 _ _ l0 x9_1 t243 _ ?side1 ?side2 A66.out).mono ?_); (case side1 => exact Kd.C_below HR0.out (by repeat (first | (with_reducible first | exact HB.out | apply below_alloc | apply pw_below_drewN | apply below_drew1 | refine below_set ?_ GE218.out | refine below_set ?_ GE226.out) | exact HB.out))); (case side2 => exact HC0.out); rintro e w' ⟨rfl, ⟨nd, rfl⟩⟩; (try first | exact ⟨rfl, _, World.drewN_drewN _ _ _⟩ | exact ⟨rfl, _, Eq.trans (World.drewN_drewN _ _ _) (congrArg (World.drewN _) (Nat.add_assoc _ _ _))⟩); have hcz70_0 : wc.cell? ⟨gb218, 0, none⟩ = some (.int .i64 x219000_1) := (blk_cell BK218.out 0).trans rfl; have hcz70_1 : wc.cell? ⟨gb218, 1, none⟩ = some (.int .i64 x219001_1) := (blk_cell BK218.out 1).trans rfl; have hfz70_0 := blk_frozen BK218.out 0; have hfz70_1 := blk_frozen BK218.out 1))
                     repeat (go_quiet (fail); try go_wp2)
                     refine bodyPost_ret (results_tc rfl _ _ gb218 27 #[.int .i64 3, .int .i64 x9_1] (0, 0) _ rfl (by (with_reducible repeat (first | refine blk_drewN ?_ _ | refine blk_drew ?_ | refine blk_alloc ?_ _)); refine blk_put (cs := #[.int .i64 3, .int .i64 x219001_1]) ?_ 1 _ rfl; (with_reducible repeat (first | refine blk_drewN ?_ _ | refine blk_drew ?_ | refine blk_alloc ?_ _)); refine blk_put (cs := #[.int .i64 x219000_1, .int .i64 x219001_1]) ?_ 0 _ rfl; (with_reducible repeat (first | refine blk_drewN ?_ _ | refine blk_drew ?_ | refine blk_alloc ?_ _)); refine blk_far ?_ NB218_226.out _; (with_reducible repeat (first | refine blk_drewN ?_ _ | refine blk_drew ?_ | refine blk_alloc ?_ _)); refine blk_far ?_ NB218_226.out _; (with_reducible repeat (first | refine blk_drewN ?_ _ | refine blk_drew ?_ | refine blk_alloc ?_ _)); exact BK218.out) Try.underlying27 rfl (by kernel_rfl)) rfl ?_
                     exact ⟨_, by first | rfl | (simp [errW_none, errW_some] <;> rfl) | (simp [*, errW_none, errW_some] <;> rfl), by first | exact Kd.R_nil _ _ _ _ _ | exact Kd.N_nil _ _ _ _ _ | exact Kd.V_nil _ _ _ _ _ | exact Kd.Q_nil _ _ _ _ _ | exact Kd.S_nil _ _ _ _ _, by repeat (first | (with_reducible first | exact HB.out | apply below_alloc | apply pw_below_drewN | apply below_drew1 | refine below_set ?_ GE218.out | refine below_set ?_ GE226.out) | exact HB.out)⟩
                    ·rw [if_neg c67] at H
                     have c67b0 : decide (t243 < 0) = false := decide_eq_false c67
                     clear c67
                     by_cases c71 : x6_1.length < 5864062014805
                     ·rw [if_pos c71] at H
                      have LMc71 := Aside0.mk c71
                      clear c71
                      obtain ⟨y244, hy244⟩ : ∃ y_ : List (S31), y_ = (x6_1 ++ [(⟨8, x9_1, t243⟩ : S31)]) := ⟨_, rfl⟩
                      replace H : (abridgerref1_Jlex.l0 kj60 l0 y244 (⟨#[123, 125, 91, 93, 58, 44]⟩ : ByteArray) y221 t243) = some (r1, r2, r3) := by first | (rw [hy244]; with_reducible exact H) | (have H2_ := (Option.bind_some _ _).symm.trans H; rw [hy244]; with_reducible exact H2_) | (have H2_ := (Option.bind_some _ _).symm.trans H; with_reducible exact H2_) | with_reducible exact H | (rw [hy244]; exact H) | exact H
                      have Ny244 := Aside0.mk hy244
                      clear hy244
                      have H' := Aside0.mk H
                      clear H
                      have hnb72 := NB226_218.out
                      have hnc72 := NB218_226.out
                      have hcz73_0 : wc.cell? ⟨gb226, 0, none⟩ = some (.int .i64 x227000_3) := (blk_cell BK226.out 0).trans rfl
                      have hcz73_1 : wc.cell? ⟨gb226, 1, none⟩ = some (.int .i64 x9_1) := (blk_cell BK226.out 1).trans rfl
                      have hcz73_2 : wc.cell? ⟨gb226, 2, none⟩ = some (.int .i64 x227002_3) := (blk_cell BK226.out 2).trans rfl
                      have hfz73_0 := blk_frozen BK226.out 0
                      have hfz73_1 := blk_frozen BK226.out 1
                      have hfz73_2 := blk_frozen BK226.out 2
                      go_wp2_with (first | (go_at_call 19; (with_reducible refine (abridgerref1_jnumber.calls kj60 _ _ l0 x9_1 t243 _ ?side1 ?side2 A66.out).mono ?_); (case side1 => exact Kd.C_below HR0.out (by repeat (first | (with_reducible first | exact HB.out | apply below_alloc | apply pw_below_drewN | apply below_drew1 | refine below_set ?_ GE218.out | refine below_set ?_ GE226.out) | exact HB.out))); (case side2 => exact HC0.out); rintro e w' ⟨rfl, ⟨nd, rfl⟩⟩; (try first | exact ⟨rfl, _, World.drewN_drewN _ _ _⟩ | exact ⟨rfl, _, Eq.trans (World.drewN_drewN _ _ _) (congrArg (World.drewN _) (Nat.add_assoc _ _ _))⟩)) | ((with_reducible refine gate_builtin (b := .append) (xs := #[(.tmp 142), (.tmp 144)]) rfl ?_); at_builtin; refine Kd.R_append k31 (w0 := w) w.heap.size rfl (.tmp 142) (.tmp 144) 24 31 (.agg #[(.int .i64 0), (.int .i64 0), (.int .i64 0)]) 24 rfl Try.underlying24 info31 rfl (by decide) (by omega) u6 x6_1 (⟨8, x9_1, t243⟩ : S31) [.int .i64 8, .int .i64 x9_1, .int .i64 t243] (fun k_ => k_ ≠ gb226) (fun _ => False) rfl (by first | (go_simp; done) | (go_simp; rfl)) ?aP (fun _ hk => hk.elim) ?aF ?aO ?aB ?aS ?aL ?_; (case aP => exact k31_mkM _ _ _ (⟨8, x9_1, t243⟩ : S31)); (case aB => exact (by repeat (first | (with_reducible first | exact HB.out | apply below_alloc | apply pw_below_drewN | apply below_drew1 | refine below_set ?_ GE218.out | refine below_set ?_ GE226.out) | exact HB.out))); (case aF => exact (fun k_ hk => Kd.freshB (g := gb226) (o := .cells #[.int .i64 8, .int .i64 x9_1, .int .i64 t243] 31 (0, 0)) (by (with_reducible repeat (first | refine blk_drewN ?_ _ | refine blk_drew ?_ | refine blk_alloc ?_ _)); refine blk_put (cs := #[.int .i64 8, .int .i64 x9_1, .int .i64 x227002_3]) ?_ 2 _ rfl; (with_reducible repeat (first | refine blk_drewN ?_ _ | refine blk_drew ?_ | refine blk_alloc ?_ _)); refine blk_put (cs := #[.int .i64 x227000_3, .int .i64 x9_1, .int .i64 x227002_3]) ?_ 0 _ rfl; (with_reducible repeat (first | refine blk_drewN ?_ _ | refine blk_drew ?_ | refine blk_alloc ?_ _)); exact BK226.out) k_ hk)); (case aO => exact (by (with_reducible repeat (first | apply Kd.R_alloc | apply Kd.R_drewN | apply Kd.R_drew)); exact Kd.R_mono (Kd.R_far (p := ⟨gb226, 2, none⟩) (Kd.R_far (p := ⟨gb226, 0, none⟩) (Kd.R_mono HO_6.out (fun k_ hk => (⟨hk, hk⟩ : _ ∧ k_ ≠ gb226))) (fun _ hk => hk.2) (.int .i64 8)) (fun _ hk => hk.2) (.int .i64 t243)) (fun _ hk => hk.1))); (case aS => exact (below_size (by repeat (first | (with_reducible first | exact HB.out | apply below_alloc | apply pw_below_drewN | apply below_drew1 | refine below_set ?_ GE218.out | refine below_set ?_ GE226.out) | exact HB.out)))); (case aL => have := LMc71.out; omega); intro v245 w74 ho hb hg hat; rw [← Ny244.out] at ho; have n0_ := Aside0.mk (Kd.R_over' (by (with_reducible repeat (first | apply Kd.R_alloc | apply Kd.R_drewN | apply Kd.R_drew)); exact (Kd.R_mono (Kd.R_far (p := ⟨gb226, 2, none⟩) (Kd.R_far (p := ⟨gb226, 0, none⟩) (Kd.R_types HO_8.out BK226.out (by decide)) (fun _ hk => hk.2) (.int .i64 8)) (fun _ hk => hk.2) (.int .i64 t243)) (fun _ h_ => h_.1))) (Kd.R_typed (by (with_reducible repeat (first | apply Kd.R_alloc | apply Kd.R_drewN | apply Kd.R_drew)); exact (Kd.R_mono (Kd.R_far (p := ⟨gb226, 2, none⟩) (Kd.R_far (p := ⟨gb226, 0, none⟩) (Kd.R_mono HO_6.out (fun k_ hk => (⟨hk, hk⟩ : _ ∧ k_ ≠ gb226))) (fun _ hk => hk.2) (.int .i64 8)) (fun _ hk => hk.2) (.int .i64 t243)) (fun _ h_ => h_.1)))) (by decide) hg); have n1_ := Aside0.mk (blk_grown (g := gb218) (o := .cells #[.int .i64 x219000_1, .int .i64 x219001_1] 27 (0, 0)) (by (with_reducible repeat (first | refine blk_drewN ?_ _ | refine blk_drew ?_ | refine blk_alloc ?_ _)); refine blk_far ?_ NB218_226.out _; (with_reducible repeat (first | refine blk_drewN ?_ _ | refine blk_drew ?_ | refine blk_alloc ?_ _)); refine blk_far ?_ NB218_226.out _; (with_reducible repeat (first | refine blk_drewN ?_ _ | refine blk_drew ?_ | refine blk_alloc ?_ _)); exact BK218.out) hg (Kd.R_ne HO_6.out BK218.out (by decide))); have n2_ := Aside0.mk (blk_grown (g := gb226) (o := .cells #[.int .i64 8, .int .i64 x9_1, .int .i64 t243] 31 (0, 0)) (by (with_reducible repeat (first | refine blk_drewN ?_ _ | refine blk_drew ?_ | refine blk_alloc ?_ _)); refine blk_put (cs := #[.int .i64 8, .int .i64 x9_1, .int .i64 x227002_3]) ?_ 2 _ rfl; (with_reducible repeat (first | refine blk_drewN ?_ _ | refine blk_drew ?_ | refine blk_alloc ?_ _)); refine blk_put (cs := #[.int .i64 x227000_3, .int .i64 x9_1, .int .i64 x227002_3]) ?_ 0 _ rfl; (with_reducible repeat (first | refine blk_drewN ?_ _ | refine blk_drew ?_ | refine blk_alloc ?_ _)); exact BK226.out) hg (Kd.R_away HO_6.out (fun _ hk => hk))); have n3_ := Aside0.mk (hb); have n4_ := Aside0.mk (ho); clear HO_8; clear BK218; clear BK226; clear HB; clear HO_6; have HO_8 := n0_; have BK218 := n1_; have BK226 := n2_; have HB := n3_; have HO246 := n4_; clear n0_ n1_ n2_ n3_ n4_; clear ho hb hg hat; have hcz75_0 : w74.cell? ⟨gb226, 0, none⟩ = some (.int .i64 8) := (blk_cell BK226.out 0).trans rfl; have hcz75_1 : w74.cell? ⟨gb226, 1, none⟩ = some (.int .i64 x9_1) := (blk_cell BK226.out 1).trans rfl; have hcz75_2 : w74.cell? ⟨gb226, 2, none⟩ = some (.int .i64 t243) := (blk_cell BK226.out 2).trans rfl; have hfz75_0 := blk_frozen BK226.out 0; have hfz75_1 := blk_frozen BK226.out 1; have hfz75_2 := blk_frozen BK226.out 2))
                      repeat (go_quiet (fail); try go_wp2)
                      go_roundg kj60
                      case measure => have := HK1.out; have := HK2.out; have := HK3.out; have := HJ60.out; omega
                      case rel => exact ⟨(y244), (t243), (x219000_1), (x219001_1), (by first | rfl | (simp; done) | (simp [*]; done)), H', ⟨by have := HK1.out; have := HK2.out; have := HK3.out; have := HJ60.out; omega⟩, ⟨by (with_reducible repeat (first | apply Kd.R_alloc | apply Kd.R_drewN | apply Kd.R_drew)); exact Kd.R_mono HO246.out (fun _ hk => trivial)⟩, ⟨by (with_reducible repeat (first | apply Kd.R_alloc | apply Kd.R_drewN | apply Kd.R_drew)); exact HO_8.out⟩, ⟨by (with_reducible repeat (first | refine blk_drewN ?_ _ | refine blk_drew ?_ | refine blk_alloc ?_ _)); exact BK218.out⟩, ⟨by repeat (first | (with_reducible first | exact HB.out | apply below_alloc | apply pw_below_drewN | apply below_drew1 | refine below_set ?_ GE218.out | refine below_set ?_ GE226.out) | exact HB.out)⟩⟩
                     ·rw [if_neg c71] at H
                      exact absurd H (by simp)
                   ·replace c65 := Bool.eq_false_iff.mpr c65
                    subst c65
                    have H1 : (if x227002_3 < 0 then (some (([] : List (S31)), 3, x9_1)) else (if x6_1.length < 5864062014805 then (abridgerref1_Jlex.l0 kj60 l0 (x6_1 ++ [(⟨x227000_3, x9_1, x227002_3⟩ : S31)]) (⟨#[123, 125, 91, 93, 58, 44]⟩ : ByteArray) y221 x227002_3) else (none))) = some (r1, r2, r3) := by rw [if_neg (show ¬ (false = true) by decide)] at H; exact H
                    clear H
                    have H := H1
                    clear H1
                    by_cases c76 : x227002_3 < 0
                    ·rw [if_pos c76] at H
                     have c76b0 : decide (x227002_3 < 0) = true := decide_eq_true c76
                     clear c76
                     simp only [Option.some.injEq, Prod.mk.injEq] at H
                     obtain ⟨rfl, rfl, rfl⟩ := H
                     have hnb77 := NB226_218.out
                     have hnc77 := NB218_226.out
                     have hcz78_0 : wc.cell? ⟨gb226, 0, none⟩ = some (.int .i64 x227000_3) := (blk_cell BK226.out 0).trans rfl
                     have hcz78_1 : wc.cell? ⟨gb226, 1, none⟩ = some (.int .i64 x9_1) := (blk_cell BK226.out 1).trans rfl
                     have hcz78_2 : wc.cell? ⟨gb226, 2, none⟩ = some (.int .i64 x227002_3) := (blk_cell BK226.out 2).trans rfl
                     have hfz78_0 := blk_frozen BK226.out 0
                     have hfz78_1 := blk_frozen BK226.out 1
                     have hfz78_2 := blk_frozen BK226.out 2
                     have hcz79_0 : wc.cell? ⟨gb218, 0, none⟩ = some (.int .i64 x219000_1) := (blk_cell BK218.out 0).trans rfl
                     have hcz79_1 : wc.cell? ⟨gb218, 1, none⟩ = some (.int .i64 x219001_1) := (blk_cell BK218.out 1).trans rfl
                     have hfz79_0 := blk_frozen BK218.out 0
                     have hfz79_1 := blk_frozen BK218.out 1
                     go_wp2
                     repeat (go_quiet (fail); try go_wp2)
                     refine bodyPost_ret (results_tc rfl _ _ gb218 27 #[.int .i64 3, .int .i64 x9_1] (0, 0) _ rfl (by (with_reducible repeat (first | refine blk_drewN ?_ _ | refine blk_drew ?_ | refine blk_alloc ?_ _)); refine blk_put (cs := #[.int .i64 3, .int .i64 x219001_1]) ?_ 1 _ rfl; (with_reducible repeat (first | refine blk_drewN ?_ _ | refine blk_drew ?_ | refine blk_alloc ?_ _)); refine blk_put (cs := #[.int .i64 x219000_1, .int .i64 x219001_1]) ?_ 0 _ rfl; (with_reducible repeat (first | refine blk_drewN ?_ _ | refine blk_drew ?_ | refine blk_alloc ?_ _)); exact BK218.out) Try.underlying27 rfl (by kernel_rfl)) rfl ?_
                     exact ⟨_, by first | rfl | (simp [errW_none, errW_some] <;> rfl) | (simp [*, errW_none, errW_some] <;> rfl), by first | exact Kd.R_nil _ _ _ _ _ | exact Kd.N_nil _ _ _ _ _ | exact Kd.V_nil _ _ _ _ _ | exact Kd.Q_nil _ _ _ _ _ | exact Kd.S_nil _ _ _ _ _, by repeat (first | (with_reducible first | exact HB.out | apply below_alloc | apply pw_below_drewN | apply below_drew1 | refine below_set ?_ GE218.out | refine below_set ?_ GE226.out) | exact HB.out)⟩
                    ·rw [if_neg c76] at H
                     have c76b0 : decide (x227002_3 < 0) = false := decide_eq_false c76
                     clear c76
                     by_cases c80 : x6_1.length < 5864062014805
                     ·rw [if_pos c80] at H
                      have LMc80 := Aside0.mk c80
                      clear c80
                      obtain ⟨y247, hy247⟩ : ∃ y_ : List (S31), y_ = (x6_1 ++ [(⟨x227000_3, x9_1, x227002_3⟩ : S31)]) := ⟨_, rfl⟩
                      replace H : (abridgerref1_Jlex.l0 kj60 l0 y247 (⟨#[123, 125, 91, 93, 58, 44]⟩ : ByteArray) y221 x227002_3) = some (r1, r2, r3) := by first | (rw [hy247]; with_reducible exact H) | (have H2_ := (Option.bind_some _ _).symm.trans H; rw [hy247]; with_reducible exact H2_) | (have H2_ := (Option.bind_some _ _).symm.trans H; with_reducible exact H2_) | with_reducible exact H | (rw [hy247]; exact H) | exact H
                      have Ny247 := Aside0.mk hy247
                      clear hy247
                      have H' := Aside0.mk H
                      clear H
                      have hnb81 := NB226_218.out
                      have hnc81 := NB218_226.out
                      have hcz82_0 : wc.cell? ⟨gb226, 0, none⟩ = some (.int .i64 x227000_3) := (blk_cell BK226.out 0).trans rfl
                      have hcz82_1 : wc.cell? ⟨gb226, 1, none⟩ = some (.int .i64 x9_1) := (blk_cell BK226.out 1).trans rfl
                      have hcz82_2 : wc.cell? ⟨gb226, 2, none⟩ = some (.int .i64 x227002_3) := (blk_cell BK226.out 2).trans rfl
                      have hfz82_0 := blk_frozen BK226.out 0
                      have hfz82_1 := blk_frozen BK226.out 1
                      have hfz82_2 := blk_frozen BK226.out 2
                      go_wp2_with (first | ((with_reducible refine gate_builtin (b := .append) (xs := #[(.tmp 142), (.tmp 144)]) rfl ?_); at_builtin; refine Kd.R_append k31 (w0 := w) w.heap.size rfl (.tmp 142) (.tmp 144) 24 31 (.agg #[(.int .i64 0), (.int .i64 0), (.int .i64 0)]) 24 rfl Try.underlying24 info31 rfl (by decide) (by omega) u6 x6_1 (⟨x227000_3, x9_1, x227002_3⟩ : S31) [.int .i64 x227000_3, .int .i64 x9_1, .int .i64 x227002_3] (fun k_ => k_ ≠ gb226) (fun _ => False) rfl rfl ?aP (fun _ hk => hk.elim) ?aF ?aO ?aB ?aS ?aL ?_; (case aP => exact k31_mkM _ _ _ (⟨x227000_3, x9_1, x227002_3⟩ : S31)); (case aB => exact (by repeat (first | (with_reducible first | exact HB.out | apply below_alloc | apply pw_below_drewN | apply below_drew1 | refine below_set ?_ GE218.out | refine below_set ?_ GE226.out) | exact HB.out))); (case aF => exact (fun k_ hk => Kd.freshB (g := gb226) (o := .cells #[.int .i64 x227000_3, .int .i64 x9_1, .int .i64 x227002_3] 31 (0, 0)) (by (with_reducible repeat (first | refine blk_drewN ?_ _ | refine blk_drew ?_ | refine blk_alloc ?_ _)); exact BK226.out) k_ hk)); (case aO => exact (by (with_reducible repeat (first | apply Kd.R_alloc | apply Kd.R_drewN | apply Kd.R_drew)); exact HO_6.out)); (case aS => exact (below_size (by repeat (first | (with_reducible first | exact HB.out | apply below_alloc | apply pw_below_drewN | apply below_drew1 | refine below_set ?_ GE218.out | refine below_set ?_ GE226.out) | exact HB.out)))); (case aL => have := LMc80.out; omega); intro v248 w83 ho hb hg hat; rw [← Ny247.out] at ho; have n0_ := Aside0.mk (Kd.R_over' (by (with_reducible repeat (first | apply Kd.R_alloc | apply Kd.R_drewN | apply Kd.R_drew)); exact HO_8.out) (Kd.R_typed (by (with_reducible repeat (first | apply Kd.R_alloc | apply Kd.R_drewN | apply Kd.R_drew)); exact HO_6.out)) (by decide) hg); have n1_ := Aside0.mk (blk_grown (g := gb218) (o := .cells #[.int .i64 x219000_1, .int .i64 x219001_1] 27 (0, 0)) (by (with_reducible repeat (first | refine blk_drewN ?_ _ | refine blk_drew ?_ | refine blk_alloc ?_ _)); exact BK218.out) hg (Kd.R_ne HO_6.out BK218.out (by decide))); have n2_ := Aside0.mk (blk_grown (g := gb226) (o := .cells #[.int .i64 x227000_3, .int .i64 x9_1, .int .i64 x227002_3] 31 (0, 0)) (by (with_reducible repeat (first | refine blk_drewN ?_ _ | refine blk_drew ?_ | refine blk_alloc ?_ _)); exact BK226.out) hg (Kd.R_away HO_6.out (fun _ hk => hk))); have n3_ := Aside0.mk (hb); have n4_ := Aside0.mk (ho); clear HO_8; clear BK218; clear BK226; clear HB; clear HO_6; have HO_8 := n0_; have BK218 := n1_; have BK226 := n2_; have HB := n3_; have HO249 := n4_; clear n0_ n1_ n2_ n3_ n4_; clear ho hb hg hat; have hcz84_0 : w83.cell? ⟨gb226, 0, none⟩ = some (.int .i64 x227000_3) := (blk_cell BK226.out 0).trans rfl; have hcz84_1 : w83.cell? ⟨gb226, 1, none⟩ = some (.int .i64 x9_1) := (blk_cell BK226.out 1).trans rfl; have hcz84_2 : w83.cell? ⟨gb226, 2, none⟩ = some (.int .i64 x227002_3) := (blk_cell BK226.out 2).trans rfl; have hfz84_0 := blk_frozen BK226.out 0; have hfz84_1 := blk_frozen BK226.out 1; have hfz84_2 := blk_frozen BK226.out 2))
                      repeat (go_quiet (fail); try go_wp2)
                      go_roundg kj60
                      case measure => have := HK1.out; have := HK2.out; have := HK3.out; have := HJ60.out; omega
                      case rel => exact ⟨(y247), (x227002_3), (x219000_1), (x219001_1), (by first | rfl | (simp; done) | (simp [*]; done)), H', ⟨by have := HK1.out; have := HK2.out; have := HK3.out; have := HJ60.out; omega⟩, ⟨by (with_reducible repeat (first | apply Kd.R_alloc | apply Kd.R_drewN | apply Kd.R_drew)); exact Kd.R_mono HO249.out (fun _ hk => trivial)⟩, ⟨by (with_reducible repeat (first | apply Kd.R_alloc | apply Kd.R_drewN | apply Kd.R_drew)); exact HO_8.out⟩, ⟨by (with_reducible repeat (first | refine blk_drewN ?_ _ | refine blk_drew ?_ | refine blk_alloc ?_ _)); exact BK218.out⟩, ⟨by repeat (first | (with_reducible first | exact HB.out | apply below_alloc | apply pw_below_drewN | apply below_drew1 | refine below_set ?_ GE218.out | refine below_set ?_ GE226.out) | exact HB.out)⟩⟩
                     ·rw [if_neg c80] at H
                      exact absurd H (by simp)
               ·rw [if_neg c47] at H
                exact absurd H (by simp)
              ·rw [if_neg c46] at H
               exact absurd H (by simp)
      ·rw [if_neg c11] at H
       exact absurd H (by simp)
     ·rw [if_neg c10] at H
      have c10b0 : decide (x9_1 < (l0.length : Int)) = false := decide_eq_false c10
      clear c10
      simp only [Option.some.injEq, Prod.mk.injEq] at H
      obtain ⟨rfl, rfl, rfl⟩ := H
      have hcz85_0 : wr.cell? ⟨gb218, 0, none⟩ = some (.int .i64 x219000_1) := (blk_cell BK218.out 0).trans rfl
      have hcz85_1 : wr.cell? ⟨gb218, 1, none⟩ = some (.int .i64 x219001_1) := (blk_cell BK218.out 1).trans rfl
      have hfz85_0 := blk_frozen BK218.out 0
      have hfz85_1 := blk_frozen BK218.out 1
      go_wp2
      repeat (go_quiet (fail); try go_wp2)
      refine bodyPost_ret (results_tc rfl _ _ gb218 27 #[.int .i64 0, .int .i64 0] (0, 0) _ rfl (by (with_reducible repeat (first | refine blk_drewN ?_ _ | refine blk_drew ?_ | refine blk_alloc ?_ _)); refine blk_put (cs := #[.int .i64 0, .int .i64 x219001_1]) ?_ 1 _ rfl; (with_reducible repeat (first | refine blk_drewN ?_ _ | refine blk_drew ?_ | refine blk_alloc ?_ _)); refine blk_put (cs := #[.int .i64 x219000_1, .int .i64 x219001_1]) ?_ 0 _ rfl; (with_reducible repeat (first | refine blk_drewN ?_ _ | refine blk_drew ?_ | refine blk_alloc ?_ _)); exact BK218.out) Try.underlying27 rfl (by kernel_rfl)) rfl ?_
      exact ⟨_, by first | rfl | (simp [errW_none, errW_some] <;> rfl) | (simp [*, errW_none, errW_some] <;> rfl), by (with_reducible repeat (first | apply Kd.R_alloc | apply Kd.R_drewN | apply Kd.R_drew)); exact Kd.R_mono (Kd.R_far (p := ⟨gb218, 1, none⟩) (Kd.R_far (p := ⟨gb218, 0, none⟩) (Kd.R_types HO_6.out BK218.out (by decide)) (fun _ hk => hk.2) (.int .i64 0)) (fun _ hk => hk.2) (.int .i64 0)) (fun _ hk => trivial), by repeat (first | (with_reducible first | exact HB.out | apply below_alloc | apply pw_below_drewN | apply below_drew1 | refine below_set ?_ GE218.out) | exact HB.out)⟩
  ·replace c6 := Bool.eq_false_iff.mpr c6
   subst c6
   have H1 : (some (([] : List (S31)), 2, t219)) = some (r1, r2, r3) := by rw [if_neg (show ¬ (false = true) by decide)] at H; exact H
   clear H
   have H := H1
   clear H1
   simp only [Option.some.injEq, Prod.mk.injEq] at H
   obtain ⟨rfl, rfl, rfl⟩ := H
   go_enter Try.func10, Try.ntmps10
   go_wp2_with (first | ((with_reducible refine gate_dst (N := 3) rfl ?_); refine box_event ?hg (N := 3) ?hd (cs := #[.int .i64 0, .int .i64 0]) (t := 27) ?hr ?_; (case hd => rfl); (case hg => rfl); (case hr => first | (go_simp; done) | (go_simp; rfl)); intro gb218 hg w86 hbox hb; have n0_ := Aside0.mk (below_step (by repeat (first | (with_reducible first | exact HB.out | apply below_alloc | apply pw_below_drewN | apply below_drew1) | exact HB.out)) hb); have n1_ := Aside0.mk (hbox); have n2_ := Aside0.mk ((by rw [hg]; exact (below_size (by repeat (first | (with_reducible first | exact HB.out | apply below_alloc | apply pw_below_drewN | apply below_drew1) | exact HB.out))) : w.heap.size ≤ gb218)); have n3_ := Aside0.mk ((by rw [hg]; exact (below_size (by repeat (first | (with_reducible first | exact HB.out | apply below_alloc | apply pw_below_drewN | apply below_drew1) | exact HB.out))) : w.heap.size ≤ gb218)); clear HB; have HB := n0_; have BK218 := n1_; have GW218 := n2_; have GE218 := n3_; clear n0_ n1_ n2_ n3_; clear hb hbox hg) | (go_at_call 15; (with_reducible refine (abridgerref1_Valid.calls k _ _ l0 t219 false _ ?side1 ?side2 A5.out).mono ?_); (case side1 => repeat (first | exact (Kd.C_below HR0.out HB.out) | (with_reducible refine Kd.C_alloc ?_ _) | (with_reducible refine Kd.C_drewN ?_ _) | (with_reducible refine Kd.C_drew ?_))); (case side2 => exact HC0.out); rintro e w' ⟨rfl, ⟨nd, rfl⟩⟩; (try first | exact ⟨rfl, _, World.drewN_drewN _ _ _⟩ | exact ⟨rfl, _, Eq.trans (World.drewN_drewN _ _ _) (congrArg (World.drewN _) (Nat.add_assoc _ _ _))⟩); have hcz87_0 : w86.cell? ⟨gb218, 0, none⟩ = some (.int .i64 0) := (blk_cell BK218.out 0).trans rfl; have hcz87_1 : w86.cell? ⟨gb218, 1, none⟩ = some (.int .i64 0) := (blk_cell BK218.out 1).trans rfl; have hfz87_0 := blk_frozen BK218.out 0; have hfz87_1 := blk_frozen BK218.out 1))
   repeat (go_quiet (fail); try go_wp2)
   refine bodyPost_ret (results_tc rfl _ _ gb218 27 #[.int .i64 2, .int .i64 t219] (0, 0) _ rfl (by (with_reducible repeat (first | refine blk_drewN ?_ _ | refine blk_drew ?_ | refine blk_alloc ?_ _)); refine blk_put (cs := #[.int .i64 2, .int .i64 0]) ?_ 1 _ rfl; (with_reducible repeat (first | refine blk_drewN ?_ _ | refine blk_drew ?_ | refine blk_alloc ?_ _)); refine blk_put (cs := #[.int .i64 0, .int .i64 0]) ?_ 0 _ rfl; (with_reducible repeat (first | refine blk_drewN ?_ _ | refine blk_drew ?_ | refine blk_alloc ?_ _)); exact BK218.out) Try.underlying27 rfl (by kernel_rfl)) rfl ?_
   exact ⟨_, by first | rfl | (simp [errW_none, errW_some] <;> rfl) | (simp [*, errW_none, errW_some] <;> rfl), by first | exact Kd.R_nil _ _ _ _ _ | exact Kd.N_nil _ _ _ _ _ | exact Kd.V_nil _ _ _ _ _ | exact Kd.Q_nil _ _ _ _ _ | exact Kd.S_nil _ _ _ _ _, by repeat (first | (with_reducible first | exact HB.out | apply below_alloc | apply pw_below_drewN | apply below_drew1 | refine below_set ?_ GE218.out) | exact HB.out)⟩

end Go.Proofs.Ytlhhibhcoefolaa.Q
