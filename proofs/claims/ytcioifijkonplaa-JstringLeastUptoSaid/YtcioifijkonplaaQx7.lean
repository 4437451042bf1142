-- Written by a program of this session (wip/tools/print2.sh), out of the translation, for this claim. Lean checks it.
import Derived.Test.YtcioifijkonplaaQx0
import Derived.Test.YtcioifijkonplaaQx1
import Derived.Test.YtcioifijkonplaaQx2
import Derived.Test.YtcioifijkonplaaQx6
namespace Go.Proofs.Ytcioifijkonplaa.Q
open Go.RowKit Go.Proofs.YtcioifijkonplaaW.PrintWords Go.Proofs.YtcioifijkonplaaW.PrintLast Go.Proofs.YtcioifijkonplaaW.PrintMore
attribute [local go_sem] max2_int min2_int max_two min_two max_three min_three max_four min_four   -- for this text's walks alone
set_option linter.unusedVariables false
set_option linter.unusedSimpArgs false

/-! ### jstring_Spell: function 11 -/
theorem jstring_Spell.others {α : Type} {d : Kd α} {e e' base b : Nat} {ok : Nat → Prop} {w w1 : World} {v : Value} {xs : List α} (h : d.R e w base ok v xs) (hk : Lib.OthersKept e' (some b) w w1) (hne : ∀ q, q ∈ e :: d.E → q ≠ e') (hb : b < base) : d.R e w1 base ok v xs := by
  refine Kd.R_mono (Kd.R_step (Kd.R_bound h) (fun k ho _ => ?_)) (fun k hk => hk.1)
  obtain ⟨_, hbk, _, q, hq, cells, hc⟩ := ho
  rw [hc]
  exact hk k _ hc (fun e_ => by injection e_ with e_; omega) (fun c fz e_ => by injection e_ with _ e2 _; exact hne q hq e2)
theorem jstring_Spell.below {T e B b : Nat} {bs : List Value} {W W' : World} (h : Lib.IsBuilderF T e B b bs W) (hb : Below W.heap.size W W') : Lib.IsBuilderF T e B b bs W' := by
  have one : ∀ {p : Value}, Lib.BuilderAtF T e B b p bs W → Lib.BuilderAtF T e B b p bs W' := by
    intro p h
    obtain ⟨hB, v, hbk, hown, hne⟩ := h
    exact ⟨hB, v, (hb.block b (Array.getElem?_eq_some_iff.1 hbk).1).trans hbk, hown.kept (row := none) ⟨hb.os, hb.tape, hb.output, hb.size, fun k hk _ => hb.block k hk⟩ (Classical.em _), hne⟩
  exact h.elim (fun x => .inl (one x)) (fun x => .inr (one x))
def jstring_Spell.l0 : Nat → List Int → Int → List UInt8 → Option (ByteArray)
  | 0, _, _, _ => none
  | k + 1, x11, x13, acc => if x13 < (x11.length : Int) then (if 0 ≤ x13 then ((jstring_spell.f k (rd x11 x13)).bind fun s => if acc.length + s.size ≤ 140737488355328 then jstring_Spell.l0 k x11 (wrap64 (x13 + 1)) (acc ++ s.data.toList) else none) else none) else (if acc.length + 1 ≤ 140737488355328 then some ⟨(acc ++ [34]).toArray⟩ else none)
def jstring_Spell.f (k : Nat) (l0 : List Int) : Option (ByteArray) := (jstring_Right.f k l0).bind fun t => if t = true then ((jstring_Pairs.f k l0).bind fun ps => jstring_Spell.l0 k ps 0 [34]) else some (⟨#[]⟩ : ByteArray)
theorem jstring_Spell.mono_l : ∀ k, (∀ y0 y1 y2, LeO (jstring_Spell.l0 k y0 y1 y2) (jstring_Spell.l0 (k + 1) y0 y1 y2))
  | 0 => fun _ _ _ r h => by simp [jstring_Spell.l0] at h
  | k + 1 => by
    have ih0 := jstring_Spell.mono_l k
    · intro y0 y1 y2
      unfold jstring_Spell.l0
      repeat' first
      | (with_reducible exact ih0 _ _ _)
      | (with_reducible exact jstring_spell.mono _ _)
      | (with_reducible exact LeO.refl _)
      | (with_reducible exact LeO.none _)
      | (with_reducible refine LeO.ite ?_ ?_)
      | (with_reducible refine LeO.bind ?_ (fun _ => ?_))
theorem jstring_Spell.mono : ∀ a0 k, LeO (jstring_Spell.f k a0) (jstring_Spell.f (k + 1) a0) := by
  intro a0 k
  unfold jstring_Spell.f
  refine LeO.bind (jstring_Right.mono _ _) (fun _ => LeO.ite (LeO.bind (jstring_Pairs.mono _ _) (fun _ => jstring_Spell.mono_l _ _ _ _)) (LeO.refl _))
set_option maxHeartbeats 8000000 in
set_option maxRecDepth 100000 in
theorem jstring_Spell.calls (k : Nat) (A0 : Option Addr) (c0 : Nat) (l0 : List Int) (r : ByteArray) (w : World) (hr0 : Kd.C (Kd.int .i64) w A0 l0.length l0) (hc0 : l0.length ≤ c0) (h : jstring_Spell.f k l0 = some r) :
    Calls Try.prog 11 #[.slice A0 l0.length c0] w fun e w' => e = .returned (.string r) ∧ Below w.heap.size w w' := by
  unfold jstring_Spell.f at h
  obtain ⟨t, hR, h⟩ := Option.bind_eq_some_iff.mp h
  go_enter Try.func11, Try.ntmps11
  by_cases ht : t = true
  · subst ht
    rw [if_pos rfl] at h
    obtain ⟨ps, hP, h⟩ := Option.bind_eq_some_iff.mp h
    go_wp2_with (go_at_call 9; refine (jstring_Right.calls k A0 c0 l0 true _ hr0 hc0 hR).mono ?_)
    rintro e w1 ⟨rfl, hD⟩
    have hC1 : Kd.C (Kd.int .i64) w1 A0 l0.length l0 := by
      obtain ⟨nd, rfl⟩ := hD
      exact Kd.C_drewN hr0 _
    have hB1 : Below w.heap.size w w1 := by
      obtain ⟨nd, rfl⟩ := hD
      apply pw_below_drewN
      exact Below.refl _ _
    have hs1 : w1.heap.size = w.heap.size := by
      obtain ⟨nd, rfl⟩ := hD
      rfl
    clear hD
    have hI0 := (Lib.IsBuilderF.of (Lib.fresh_isBuilder 38 5 w1))
    rw [hs1] at hI0
    have hB2 : Below w.heap.size w (w1.alloc (.cells #[.pointer none, .slice none 0 0] 38)) := hB1.alloc (by rw [hs1]; exact Nat.le_refl _) _
    have hz2 : w.heap.size < (w1.alloc (.cells #[.pointer none, .slice none 0 0] 38)).heap.size := by
      rw [← hs1]
      simp
    have hl0 : ([] : List Value).length + (⟨#[34]⟩ : ByteArray).size ≤ 140737488355328 := by
      have e1 : (⟨#[34]⟩ : ByteArray).size = 1 := rfl
      rw [e1, List.length_nil]
      omega
    have hC2 := Kd.C_below hC1 ((Below.refl w1.heap.size w1).alloc (Nat.le_refl _) (.cells #[.pointer none, .slice none 0 0] 38))
    have hW := Try.Builder_WriteString_k w.heap.size w.heap.size [] ⟨#[34]⟩ _ hI0 hl0 (Nat.le_of_lt hz2)
    go_wp2_with (go_at_call 18; refine hW.mono ?_)
    rintro e w2 ⟨rfl, hI2, hB2', hK2⟩
    have hB3 := hB2.trans hB2'
    have hz3 : w.heap.size < w2.heap.size := Nat.lt_of_lt_of_le hz2 hB2'.size
    go_wp2_with (go_at_call 19; refine (jstring_Pairs.calls k A0 c0 l0 ps _ (Kd.C_below hr0 hB3) hc0 hP).mono ?_)
    rintro e w3 ⟨v, rfl, hR3, hB4⟩
    have hI3 := jstring_Spell.below (.inr hI2) hB4
    have hB5 : Below w.heap.size w w3 := hB3.trans (hB4.mono (Nat.le_of_lt hz3))
    obtain ⟨A, c, rfl⟩ := Kd.R_slice hR3
    have hAt : ∃ acc : List UInt8, acc = [34] ∧ Lib.IsBuilderF 38 5 w.heap.size w.heap.size (Lib.byteCells acc) w3 := ⟨_, rfl, hI3⟩
    clear hI2 hI3 hC1 hC2 hW hI0 hB2 hB2' hK2 hB1 hz2 hl0
    obtain ⟨acc0, ha0, hI3⟩ := hAt
    rw [← ha0] at h
    clear ha0
    go_wp2
    go_loopg [13] k (fun kq v13 w' => ∃ (x13 : Int) (acc : List UInt8), v13 = .int .i64 x13 ∧ Aside0 (jstring_Spell.l0 kq ps x13 acc = some r) ∧ Aside0 (kq ≤ k) ∧ Aside0 (Lib.IsBuilderF 38 5 w.heap.size w.heap.size (Lib.byteCells acc) w') ∧ Aside0 (Kd.R (Kd.int .i64) 3 w' w2.heap.size (fun _ => True) (.slice A ps.length c) ps) ∧ Aside0 (Below w.heap.size w w'))
    case atStart => exact ⟨0, acc0, (by first | rfl | simp), ⟨h⟩, ⟨Nat.le_refl _⟩, ⟨hI3⟩, ⟨hR3⟩, ⟨hB5⟩⟩
    case round =>
      clear hI3 hR3 hB5 h
      obtain ⟨x13, acc, rfl, HA, HK1, HI, HR, HB⟩ := hrel
      cases gk with
      | zero => exact absurd HA.out (by simp [jstring_Spell.l0])
      | succ k1 =>
        have H := HA.out
        clear HA
        simp only [jstring_Spell.l0] at H
        by_cases c2 : x13 < (ps.length : Int)
        · rw [if_pos c2] at H
          have c2b0 : decide (x13 < (ps.length : Int)) = true := decide_eq_true c2
          by_cases c3 : 0 ≤ x13
          · rw [if_pos c3] at H
            have c3b0 : decide (0 ≤ x13) = true := decide_eq_true c3
            obtain ⟨s, hs, H⟩ := Option.bind_eq_some_iff.mp H
            by_cases c4 : acc.length + s.size ≤ 140737488355328
            · rw [if_pos c4] at H
              have H' := Aside0.mk H
              clear H
              have c4' := Aside0.mk c4
              clear c4
              have hs' := Aside0.mk hs
              clear hs
              have p1 := c3
              have q1 := c2
              obtain ⟨ad, e1, hx⟩ := Kd.at_int (Kd.R_reads' HR.out).2.2 x13 p1 q1
              cases e1
              replace p1 := eq_true p1
              replace q1 := eq_true q1
              go_wp2_with (go_at_call 20; refine (jstring_spell.calls k1 (rd ps x13) s _ hs'.out).mono ?_)
              rintro e w5 ⟨rfl, hB6⟩
              have hI5 := jstring_Spell.below HI.out hB6
              have hR5 := Kd.R_below HR.out hB6
              have hB7 := HB.out.trans (hB6.mono HB.out.size)
              have hl5 : (Lib.byteCells acc).length + s.size ≤ 140737488355328 := by
                rw [Lib.byteCells_length]
                exact c4'.out
              go_wp2_with (go_at_call 18; refine (Try.Builder_WriteString_k w.heap.size w.heap.size (Lib.byteCells acc) s _ hI5 hl5 hB7.size).mono ?_)
              rintro e w6 ⟨rfl, hI6, hB8, hK6⟩
              have hR6 := jstring_Spell.others hR5 hK6 (by intro q hq; simp [Kd.int, Kd.scalar] at hq; omega) hz3
              go_wp2
              go_roundg k1
              case measure => have := HK1.out; omega
              case rel => exact ⟨wrap64 (x13 + 1), acc ++ s.data.toList, (by first | rfl | simp), H', ⟨by have := HK1.out; omega⟩, ⟨by rw [Lib.byteCells_append]; exact Or.inr hI6⟩, ⟨hR6⟩, ⟨hB7.trans hB8⟩⟩
            · rw [if_neg c4] at H
              exact absurd H (by simp)
          · rw [if_neg c3] at H
            exact absurd H (by simp)
        · rw [if_neg c2] at H
          have c2b0 : decide (x13 < (ps.length : Int)) = false := decide_eq_false c2
          by_cases c4 : acc.length + 1 ≤ 140737488355328
          · rw [if_pos c4] at H
            obtain rfl := Option.some.inj H
            have hl6 : (Lib.byteCells acc).length + (⟨#[34]⟩ : ByteArray).size ≤ 140737488355328 := by
              have e1 : (⟨#[34]⟩ : ByteArray).size = 1 := rfl
              rw [Lib.byteCells_length, e1]
              exact c4
            go_wp2_with (go_at_call 18; refine (Try.Builder_WriteString_k w.heap.size w.heap.size (Lib.byteCells acc) ⟨#[34]⟩ _ HI.out hl6 HB.out.size).mono ?_; rintro e w6 ⟨rfl, hI6, hB8, hK6⟩)
            have hI7 : Lib.IsBuilderF 38 5 w.heap.size w.heap.size (Lib.byteCells (acc ++ [34])) w6 := by
              rw [Lib.byteCells_append]
              exact Or.inr hI6
            have hB9 := HB.out.trans hB8
            go_wp2_with (go_at_call 21; refine (Try.Builder_String_any_k w.heap.size w.heap.size (acc ++ [34]) _ hI7 hB9.size).mono ?_)
            rintro e w7 ⟨rfl, _, hB10, _⟩
            go_wp2
            go_ret
            exact ⟨rfl, hB9.trans hB10⟩
          · rw [if_neg c4] at H
            exact absurd H (by simp)
  · rw [if_neg ht] at h
    obtain rfl := Option.some.inj h
    replace ht := Bool.eq_false_iff.mpr ht
    subst ht
    go_wp2_with (go_at_call 9; refine (jstring_Right.calls k A0 c0 l0 false _ hr0 hc0 hR).mono ?_; rintro e w1 ⟨rfl, hD⟩)
    have hB1 : Below w.heap.size w w1 := by
      obtain ⟨nd, rfl⟩ := hD
      apply pw_below_drewN
      exact Below.refl _ _
    clear hD
    go_ret
    exact ⟨rfl, hB1⟩
/-! ### abridgerlaw8_alive: function 8 -/
def abridgerlaw8_alive.f (k : Nat)  : Option (Bool) := (jstring_Spell.f k ([] : List Int)).bind fun t176 => (if t176.toList = ([34, 34] : List UInt8) then ((jstring_Spell.f k (([34, 97] : List Int))).bind fun t180 => (if t180.toList = ([34, 92, 34, 97, 34] : List UInt8) then ((jstring_Right.f k (([65535] : List Int))).bind fun t184 => (if t184 = true then ((jstring_Right.f k (([65536] : List Int))).bind fun t188 => (some (!t188))) else (some false))) else (some false))) else (some false))
theorem abridgerlaw8_alive.mono : ∀ k, LeO (abridgerlaw8_alive.f k ) (abridgerlaw8_alive.f (k + 1) ) := by
  intro  k
  unfold abridgerlaw8_alive.f
  repeat' first
      | (with_reducible exact jstring_Right.mono _ _)
      | (with_reducible exact jstring_Spell.mono _ _)
      | (with_reducible exact LeO.refl _)
      | (with_reducible exact LeO.none _)
      | (with_reducible refine LeO.ite ?_ ?_)
      | (with_reducible refine LeO.bind ?_ (fun _ => ?_))
      | exact jstring_Right.mono _ _
      | exact jstring_Spell.mono _ _
      | exact LeO.none _
      | refine LeO.ite ?_ ?_
      | refine LeO.bind ?_ (fun _ => ?_)
set_option maxHeartbeats 8000000 in
set_option maxRecDepth 100000 in
theorem abridgerlaw8_alive.calls (k : Nat)  (r : Bool) (w : World) (h : abridgerlaw8_alive.f k  = some r) :
    Calls Try.prog 8 #[] w fun e w' => e = .returned (.bool r) ∧ Below w.heap.size w w' := by
  have HB := Aside0.mk (Below.refl w.heap.size w)
  have H : ((jstring_Spell.f k ([] : List Int)).bind fun t176 => (if t176.toList = ([34, 34] : List UInt8) then ((jstring_Spell.f k (([34, 97] : List Int))).bind fun t180 => (if t180.toList = ([34, 92, 34, 97, 34] : List UInt8) then ((jstring_Right.f k (([65535] : List Int))).bind fun t184 => (if t184 = true then ((jstring_Right.f k (([65536] : List Int))).bind fun t188 => (some (!t188))) else (some false))) else (some false))) else (some false))) = some r := h
  clear h
  replace H := Option.bind_eq_some_iff.mp H
  obtain ⟨t176, A10, H⟩ := H
  replace H : (if t176.toList = ([34, 34] : List UInt8) then ((jstring_Spell.f k (([34, 97] : List Int))).bind fun t180 => (if t180.toList = ([34, 92, 34, 97, 34] : List UInt8) then ((jstring_Right.f k (([65535] : List Int))).bind fun t184 => (if t184 = true then ((jstring_Right.f k (([65536] : List Int))).bind fun t188 => (some (!t188))) else (some false))) else (some false))) else (some false)) = some r := H
  have A1 := Aside0.mk A10
  clear A10
  by_cases c2 : t176.toList = ([34, 34] : List UInt8)
  · rw [if_pos c2] at H
    have c2b0 : (t176.toList == ([34, 34] : List UInt8)) = true := beq_iff_eq.mpr c2
    have c2b1 : (t176.toList != ([34, 34] : List UInt8)) = false := bne_eq_false_iff_eq.mpr c2
    clear c2
    obtain ⟨y177, hy177⟩ : ∃ y_ : List Int, y_ = (([34, 97] : List Int)) := ⟨_, rfl⟩
    replace H : ((jstring_Spell.f k y177).bind fun t180 => (if t180.toList = ([34, 92, 34, 97, 34] : List UInt8) then ((jstring_Right.f k (([65535] : List Int))).bind fun t184 => (if t184 = true then ((jstring_Right.f k (([65536] : List Int))).bind fun t188 => (some (!t188))) else (some false))) else (some false))) = some r := by first | (rw [hy177]; with_reducible exact H) | (have H2_ := (Option.bind_some _ _).symm.trans H; rw [hy177]; with_reducible exact H2_) | (have H2_ := (Option.bind_some _ _).symm.trans H; with_reducible exact H2_) | with_reducible exact H | (rw [hy177]; exact H) | exact H
    have Ny177 := Aside0.mk hy177
    clear hy177
    replace H := Option.bind_eq_some_iff.mp H
    obtain ⟨t180, A30, H⟩ := H
    replace H : (if t180.toList = ([34, 92, 34, 97, 34] : List UInt8) then ((jstring_Right.f k (([65535] : List Int))).bind fun t184 => (if t184 = true then ((jstring_Right.f k (([65536] : List Int))).bind fun t188 => (some (!t188))) else (some false))) else (some false)) = some r := H
    have A3 := Aside0.mk A30
    clear A30
    by_cases c4 : t180.toList = ([34, 92, 34, 97, 34] : List UInt8)
    · rw [if_pos c4] at H
      have c4b0 : (t180.toList == ([34, 92, 34, 97, 34] : List UInt8)) = true := beq_iff_eq.mpr c4
      have c4b1 : (t180.toList != ([34, 92, 34, 97, 34] : List UInt8)) = false := bne_eq_false_iff_eq.mpr c4
      clear c4
      obtain ⟨y181, hy181⟩ : ∃ y_ : List Int, y_ = (([65535] : List Int)) := ⟨_, rfl⟩
      replace H : ((jstring_Right.f k y181).bind fun t184 => (if t184 = true then ((jstring_Right.f k (([65536] : List Int))).bind fun t188 => (some (!t188))) else (some false))) = some r := by first | (rw [hy181]; with_reducible exact H) | (have H2_ := (Option.bind_some _ _).symm.trans H; rw [hy181]; with_reducible exact H2_) | (have H2_ := (Option.bind_some _ _).symm.trans H; with_reducible exact H2_) | with_reducible exact H | (rw [hy181]; exact H) | exact H
      have Ny181 := Aside0.mk hy181
      clear hy181
      replace H := Option.bind_eq_some_iff.mp H
      obtain ⟨t184, A50, H⟩ := H
      replace H : (if t184 = true then ((jstring_Right.f k (([65536] : List Int))).bind fun t188 => (some (!t188))) else (some false)) = some r := H
      have A5 := Aside0.mk A50
      clear A50
      by_cases c6 : t184 = true
      · subst c6
        have H1 : ((jstring_Right.f k (([65536] : List Int))).bind fun t188 => (some (!t188))) = some r := by rw [if_pos rfl] at H; exact H
        clear H
        have H := H1
        clear H1
        obtain ⟨y185, hy185⟩ : ∃ y_ : List Int, y_ = (([65536] : List Int)) := ⟨_, rfl⟩
        replace H : ((jstring_Right.f k y185).bind fun t188 => (some (!t188))) = some r := by first | (rw [hy185]; with_reducible exact H) | (have H2_ := (Option.bind_some _ _).symm.trans H; rw [hy185]; with_reducible exact H2_) | (have H2_ := (Option.bind_some _ _).symm.trans H; with_reducible exact H2_) | with_reducible exact H | (rw [hy185]; exact H) | exact H
        have Ny185 := Aside0.mk hy185
        clear hy185
        replace H := Option.bind_eq_some_iff.mp H
        obtain ⟨t188, A70, H⟩ := H
        replace H : (some (!t188)) = some r := H
        have A7 := Aside0.mk A70
        clear A70
        obtain rfl := Option.some.inj H
        go_enter Try.func8, Try.ntmps8
        go_wp2_with (first | ((with_reducible refine gate_callee (f := 11) rfl ?_); refine goesL_ (some 1) rfl rfl Try.func11 (by kernel_rfl) rfl #[.slice none 0 0] rfl (by (try simp only [List.map_toArray, List.map_cons, List.map_nil]); first | done | rfl | (simp only [List.length_drop, List.length_take]; rfl)) ?_; (refine (jstring_Spell.calls k _ _ ([] : List Int) t176 _ ?side1 ?side2 A1.out).mono ?_); (case side1 => exact Kd.C_nil _ _); (case side2 => exact Nat.le_refl _); rintro e w8 ⟨rfl, hb⟩; refine ⟨_, rfl, ?_⟩; have n0_ := Aside0.mk (below_step (by repeat (first | (with_reducible first | exact HB.out | apply below_alloc | apply pw_below_drewN | apply below_drew1) | exact HB.out)) hb); clear HB; have HB := n0_; clear n0_; (try clear hb); (try clear hb2); (try clear hk); (try clear hi)) | ((with_reducible refine gate_dst (N := 4) rfl ?_); (try (refine gate_guard (by rfl) ?_; dsimp only)); refine Kd.R_lit (Kd.int .i64) _ 3 ?hg (N := 4) ?hd (xs := ([34, 97] : List Int)) (inner := [.int .i64 34, .int .i64 97]) (ok := fun _ => True) (okp := fun _ => True) ?hr ?hp (fun _ hk => hk) trivial (Below.refl _ _) (Nat.le_refl _) (by simp) ?_; (case hd => rfl); (case hg => rfl); (case hr => first | (go_simp; done) | (go_simp; rfl)); (case hp => exact (Reps.one (show Kd.M (Kd.int .i64) _ _ _ 34 [.int .i64 34] from rfl) (Reps.one (show Kd.M (Kd.int .i64) _ _ _ 97 [.int .i64 97] from rfl) (Reps.none _ _)))); intro v178 w9 ho10 hb hg_ hnew_; clear hg_ hnew_; (first | rw [← Ny177.out] at ho10 | (simp only [Int.reduceToNat] at ho10; rw [← Ny177.out] at ho10)); have n0_ := Aside0.mk (Kd.R_lower ho10 (below_size (by repeat (first | (with_reducible first | exact HB.out | apply below_alloc | apply pw_below_drewN | apply below_drew1) | exact HB.out)))); have n1_ := Aside0.mk (below_step (by repeat (first | (with_reducible first | exact HB.out | apply below_alloc | apply pw_below_drewN | apply below_drew1) | exact HB.out)) hb); clear HB; have HO179 := n0_; have HB := n1_; clear n0_ n1_; clear hb ho10; obtain ⟨Ao11, co11, eo11⟩ := Kd.R_slice HO179.out; subst eo11) | (go_at_call 11; (with_reducible refine (jstring_Spell.calls k _ _ y177 t180 _ ?side1 ?side2 A3.out).mono ?_); (case side1 => repeat (first | exact (Kd.R_reads' HO179.out).2.2 | (with_reducible refine Kd.C_alloc ?_ _) | (with_reducible refine Kd.C_drewN ?_ _) | (with_reducible refine Kd.C_drew ?_))); (case side2 => exact (Kd.R_reads' HO179.out).2.1); rintro e w12 ⟨rfl, hb⟩; have n0_ := Aside0.mk (Kd.R_below (by (with_reducible repeat (first | apply Kd.R_alloc | apply Kd.R_drewN | apply Kd.R_drew)); exact HO179.out) hb); have n1_ := Aside0.mk (below_step (by repeat (first | (with_reducible first | exact HB.out | apply below_alloc | apply pw_below_drewN | apply below_drew1) | exact HB.out)) hb); clear HO179; clear HB; have HO179 := n0_; have HB := n1_; clear n0_ n1_; (try clear hb); (try clear hb2); (try clear hk); (try clear hi)) | ((with_reducible refine gate_dst (N := 9) rfl ?_); (try (refine gate_guard (by rfl) ?_; dsimp only)); refine Kd.R_lit (Kd.int .i64) _ 3 ?hg (N := 9) ?hd (xs := ([65535] : List Int)) (inner := [.int .i64 65535]) (ok := fun _ => True) (okp := fun _ => True) ?hr ?hp (fun _ hk => hk) trivial (Below.refl _ _) (Nat.le_refl _) (by simp) ?_; (case hd => rfl); (case hg => rfl); (case hr => first | (go_simp; done) | (go_simp; rfl)); (case hp => exact (Reps.one (show Kd.M (Kd.int .i64) _ _ _ 65535 [.int .i64 65535] from rfl) (Reps.none _ _))); intro v182 w13 ho14 hb hg_ hnew_; clear hg_ hnew_; (first | rw [← Ny181.out] at ho14 | (simp only [Int.reduceToNat] at ho14; rw [← Ny181.out] at ho14)); have n0_ := Aside0.mk (Kd.R_elder' (by (with_reducible repeat (first | apply Kd.R_alloc | apply Kd.R_drewN | apply Kd.R_drew)); exact HO179.out) (Kd.R_base ho14) hb); have n1_ := Aside0.mk (Kd.R_lower (Kd.R_new' ho14 (Kd.R_lt (by (with_reducible repeat (first | apply Kd.R_alloc | apply Kd.R_drewN | apply Kd.R_drew)); exact HO179.out))) (below_size (by repeat (first | (with_reducible first | exact HB.out | apply below_alloc | apply pw_below_drewN | apply below_drew1) | exact HB.out)))); have n2_ := Aside0.mk (below_step (by repeat (first | (with_reducible first | exact HB.out | apply below_alloc | apply pw_below_drewN | apply below_drew1) | exact HB.out)) hb); clear HO179; clear HB; have HO179 := n0_; have HO183 := n1_; have HB := n2_; clear n0_ n1_ n2_; clear hb ho14; obtain ⟨Ao15, co15, eo15⟩ := Kd.R_slice HO183.out; subst eo15) | (go_at_call 9; (with_reducible refine (jstring_Right.calls k _ _ y181 true _ ?side1 ?side2 A5.out).mono ?_); (case side1 => repeat (first | exact (Kd.R_reads' HO183.out).2.2 | (with_reducible refine Kd.C_alloc ?_ _) | (with_reducible refine Kd.C_drewN ?_ _) | (with_reducible refine Kd.C_drew ?_))); (case side2 => exact (Kd.R_reads' HO183.out).2.1); rintro e w' ⟨rfl, ⟨nd, rfl⟩⟩) | ((with_reducible refine gate_dst (N := 13) rfl ?_); (try (refine gate_guard (by rfl) ?_; dsimp only)); refine Kd.R_lit (Kd.int .i64) _ 3 ?hg (N := 13) ?hd (xs := ([65536] : List Int)) (inner := [.int .i64 65536]) (ok := fun _ => True) (okp := fun _ => True) ?hr ?hp (fun _ hk => hk) trivial (Below.refl _ _) (Nat.le_refl _) (by simp) ?_; (case hd => rfl); (case hg => rfl); (case hr => first | (go_simp; done) | (go_simp; rfl)); (case hp => exact (Reps.one (show Kd.M (Kd.int .i64) _ _ _ 65536 [.int .i64 65536] from rfl) (Reps.none _ _))); intro v186 w16 ho17 hb hg_ hnew_; clear hg_ hnew_; (first | rw [← Ny185.out] at ho17 | (simp only [Int.reduceToNat] at ho17; rw [← Ny185.out] at ho17)); have n0_ := Aside0.mk (Kd.R_elder' (by (with_reducible repeat (first | apply Kd.R_alloc | apply Kd.R_drewN | apply Kd.R_drew)); exact HO179.out) (Kd.R_base ho17) hb); have n1_ := Aside0.mk (Kd.R_elder' (by (with_reducible repeat (first | apply Kd.R_alloc | apply Kd.R_drewN | apply Kd.R_drew)); exact HO183.out) (Kd.R_base ho17) hb); have n2_ := Aside0.mk (Kd.R_lower (Kd.R_new' (Kd.R_new' ho17 (Kd.R_lt (by (with_reducible repeat (first | apply Kd.R_alloc | apply Kd.R_drewN | apply Kd.R_drew)); exact HO179.out))) (Kd.R_lt (by (with_reducible repeat (first | apply Kd.R_alloc | apply Kd.R_drewN | apply Kd.R_drew)); exact HO183.out))) (below_size (by repeat (first | (with_reducible first | exact HB.out | apply below_alloc | apply pw_below_drewN | apply below_drew1) | exact HB.out)))); have n3_ := Aside0.mk (below_step (by repeat (first | (with_reducible first | exact HB.out | apply below_alloc | apply pw_below_drewN | apply below_drew1) | exact HB.out)) hb); clear HO179; clear HO183; clear HB; have HO179 := n0_; have HO183 := n1_; have HO187 := n2_; have HB := n3_; clear n0_ n1_ n2_ n3_; clear hb ho17; obtain ⟨Ao18, co18, eo18⟩ := Kd.R_slice HO187.out; subst eo18) | (go_at_call 9; (with_reducible refine (jstring_Right.calls k _ _ y185 t188 _ ?side1 ?side2 A7.out).mono ?_); (case side1 => repeat (first | exact (Kd.R_reads' HO187.out).2.2 | (with_reducible refine Kd.C_alloc ?_ _) | (with_reducible refine Kd.C_drewN ?_ _) | (with_reducible refine Kd.C_drew ?_))); (case side2 => exact (Kd.R_reads' HO187.out).2.1); rintro e w' ⟨rfl, ⟨nd, rfl⟩⟩))
        go_ret
        exact ⟨by first | rfl | (simp [errW_none, errW_some] <;> rfl) | (simp [*, errW_none, errW_some] <;> rfl), by repeat (first | (with_reducible first | exact HB.out | apply below_alloc | apply pw_below_drewN | apply below_drew1) | exact HB.out)⟩
      · replace c6 := Bool.eq_false_iff.mpr c6
        subst c6
        have H1 : (some false) = some r := by rw [if_neg (show ¬ (false = true) by decide)] at H; exact H
        clear H
        have H := H1
        clear H1
        obtain rfl := Option.some.inj H
        go_enter Try.func8, Try.ntmps8
        go_wp2_with (first | ((with_reducible refine gate_callee (f := 11) rfl ?_); refine goesL_ (some 1) rfl rfl Try.func11 (by kernel_rfl) rfl #[.slice none 0 0] rfl (by (try simp only [List.map_toArray, List.map_cons, List.map_nil]); first | done | rfl | (simp only [List.length_drop, List.length_take]; rfl)) ?_; (refine (jstring_Spell.calls k _ _ ([] : List Int) t176 _ ?side1 ?side2 A1.out).mono ?_); (case side1 => exact Kd.C_nil _ _); (case side2 => exact Nat.le_refl _); rintro e w19 ⟨rfl, hb⟩; refine ⟨_, rfl, ?_⟩; have n0_ := Aside0.mk (below_step (by repeat (first | (with_reducible first | exact HB.out | apply below_alloc | apply pw_below_drewN | apply below_drew1) | exact HB.out)) hb); clear HB; have HB := n0_; clear n0_; (try clear hb); (try clear hb2); (try clear hk); (try clear hi)) | ((with_reducible refine gate_dst (N := 4) rfl ?_); (try (refine gate_guard (by rfl) ?_; dsimp only)); refine Kd.R_lit (Kd.int .i64) _ 3 ?hg (N := 4) ?hd (xs := ([34, 97] : List Int)) (inner := [.int .i64 34, .int .i64 97]) (ok := fun _ => True) (okp := fun _ => True) ?hr ?hp (fun _ hk => hk) trivial (Below.refl _ _) (Nat.le_refl _) (by simp) ?_; (case hd => rfl); (case hg => rfl); (case hr => first | (go_simp; done) | (go_simp; rfl)); (case hp => exact (Reps.one (show Kd.M (Kd.int .i64) _ _ _ 34 [.int .i64 34] from rfl) (Reps.one (show Kd.M (Kd.int .i64) _ _ _ 97 [.int .i64 97] from rfl) (Reps.none _ _)))); intro v178 w20 ho21 hb hg_ hnew_; clear hg_ hnew_; (first | rw [← Ny177.out] at ho21 | (simp only [Int.reduceToNat] at ho21; rw [← Ny177.out] at ho21)); have n0_ := Aside0.mk (Kd.R_lower ho21 (below_size (by repeat (first | (with_reducible first | exact HB.out | apply below_alloc | apply pw_below_drewN | apply below_drew1) | exact HB.out)))); have n1_ := Aside0.mk (below_step (by repeat (first | (with_reducible first | exact HB.out | apply below_alloc | apply pw_below_drewN | apply below_drew1) | exact HB.out)) hb); clear HB; have HO179 := n0_; have HB := n1_; clear n0_ n1_; clear hb ho21; obtain ⟨Ao22, co22, eo22⟩ := Kd.R_slice HO179.out; subst eo22) | (go_at_call 11; (with_reducible refine (jstring_Spell.calls k _ _ y177 t180 _ ?side1 ?side2 A3.out).mono ?_); (case side1 => repeat (first | exact (Kd.R_reads' HO179.out).2.2 | (with_reducible refine Kd.C_alloc ?_ _) | (with_reducible refine Kd.C_drewN ?_ _) | (with_reducible refine Kd.C_drew ?_))); (case side2 => exact (Kd.R_reads' HO179.out).2.1); rintro e w23 ⟨rfl, hb⟩; have n0_ := Aside0.mk (Kd.R_below (by (with_reducible repeat (first | apply Kd.R_alloc | apply Kd.R_drewN | apply Kd.R_drew)); exact HO179.out) hb); have n1_ := Aside0.mk (below_step (by repeat (first | (with_reducible first | exact HB.out | apply below_alloc | apply pw_below_drewN | apply below_drew1) | exact HB.out)) hb); clear HO179; clear HB; have HO179 := n0_; have HB := n1_; clear n0_ n1_; (try clear hb); (try clear hb2); (try clear hk); (try clear hi)) | ((with_reducible refine gate_dst (N := 9) rfl ?_); (try (refine gate_guard (by rfl) ?_; dsimp only)); refine Kd.R_lit (Kd.int .i64) _ 3 ?hg (N := 9) ?hd (xs := ([65535] : List Int)) (inner := [.int .i64 65535]) (ok := fun _ => True) (okp := fun _ => True) ?hr ?hp (fun _ hk => hk) trivial (Below.refl _ _) (Nat.le_refl _) (by simp) ?_; (case hd => rfl); (case hg => rfl); (case hr => first | (go_simp; done) | (go_simp; rfl)); (case hp => exact (Reps.one (show Kd.M (Kd.int .i64) _ _ _ 65535 [.int .i64 65535] from rfl) (Reps.none _ _))); intro v182 w24 ho25 hb hg_ hnew_; clear hg_ hnew_; (first | rw [← Ny181.out] at ho25 | (simp only [Int.reduceToNat] at ho25; rw [← Ny181.out] at ho25)); have n0_ := Aside0.mk (Kd.R_elder' (by (with_reducible repeat (first | apply Kd.R_alloc | apply Kd.R_drewN | apply Kd.R_drew)); exact HO179.out) (Kd.R_base ho25) hb); have n1_ := Aside0.mk (Kd.R_lower (Kd.R_new' ho25 (Kd.R_lt (by (with_reducible repeat (first | apply Kd.R_alloc | apply Kd.R_drewN | apply Kd.R_drew)); exact HO179.out))) (below_size (by repeat (first | (with_reducible first | exact HB.out | apply below_alloc | apply pw_below_drewN | apply below_drew1) | exact HB.out)))); have n2_ := Aside0.mk (below_step (by repeat (first | (with_reducible first | exact HB.out | apply below_alloc | apply pw_below_drewN | apply below_drew1) | exact HB.out)) hb); clear HO179; clear HB; have HO179 := n0_; have HO183 := n1_; have HB := n2_; clear n0_ n1_ n2_; clear hb ho25; obtain ⟨Ao26, co26, eo26⟩ := Kd.R_slice HO183.out; subst eo26) | (go_at_call 9; (with_reducible refine (jstring_Right.calls k _ _ y181 false _ ?side1 ?side2 A5.out).mono ?_); (case side1 => repeat (first | exact (Kd.R_reads' HO183.out).2.2 | (with_reducible refine Kd.C_alloc ?_ _) | (with_reducible refine Kd.C_drewN ?_ _) | (with_reducible refine Kd.C_drew ?_))); (case side2 => exact (Kd.R_reads' HO183.out).2.1); rintro e w' ⟨rfl, ⟨nd, rfl⟩⟩))
        go_ret
        exact ⟨by first | rfl | (simp [errW_none, errW_some] <;> rfl) | (simp [*, errW_none, errW_some] <;> rfl), by repeat (first | (with_reducible first | exact HB.out | apply below_alloc | apply pw_below_drewN | apply below_drew1) | exact HB.out)⟩
    · rw [if_neg c4] at H
      have c4b0 : (t180.toList == ([34, 92, 34, 97, 34] : List UInt8)) = false := beq_eq_false_iff_ne.mpr c4
      have c4b1 : (t180.toList != ([34, 92, 34, 97, 34] : List UInt8)) = true := bne_iff_ne.mpr c4
      obtain rfl := Option.some.inj H
      go_enter Try.func8, Try.ntmps8
      go_wp2_with (first | ((with_reducible refine gate_callee (f := 11) rfl ?_); refine goesL_ (some 1) rfl rfl Try.func11 (by kernel_rfl) rfl #[.slice none 0 0] rfl (by (try simp only [List.map_toArray, List.map_cons, List.map_nil]); first | done | rfl | (simp only [List.length_drop, List.length_take]; rfl)) ?_; (refine (jstring_Spell.calls k _ _ ([] : List Int) t176 _ ?side1 ?side2 A1.out).mono ?_); (case side1 => exact Kd.C_nil _ _); (case side2 => exact Nat.le_refl _); rintro e w27 ⟨rfl, hb⟩; refine ⟨_, rfl, ?_⟩; have n0_ := Aside0.mk (below_step (by repeat (first | (with_reducible first | exact HB.out | apply below_alloc | apply pw_below_drewN | apply below_drew1) | exact HB.out)) hb); clear HB; have HB := n0_; clear n0_; (try clear hb); (try clear hb2); (try clear hk); (try clear hi)) | ((with_reducible refine gate_dst (N := 4) rfl ?_); (try (refine gate_guard (by rfl) ?_; dsimp only)); refine Kd.R_lit (Kd.int .i64) _ 3 ?hg (N := 4) ?hd (xs := ([34, 97] : List Int)) (inner := [.int .i64 34, .int .i64 97]) (ok := fun _ => True) (okp := fun _ => True) ?hr ?hp (fun _ hk => hk) trivial (Below.refl _ _) (Nat.le_refl _) (by simp) ?_; (case hd => rfl); (case hg => rfl); (case hr => first | (go_simp; done) | (go_simp; rfl)); (case hp => exact (Reps.one (show Kd.M (Kd.int .i64) _ _ _ 34 [.int .i64 34] from rfl) (Reps.one (show Kd.M (Kd.int .i64) _ _ _ 97 [.int .i64 97] from rfl) (Reps.none _ _)))); intro v178 w28 ho29 hb hg_ hnew_; clear hg_ hnew_; (first | rw [← Ny177.out] at ho29 | (simp only [Int.reduceToNat] at ho29; rw [← Ny177.out] at ho29)); have n0_ := Aside0.mk (Kd.R_lower ho29 (below_size (by repeat (first | (with_reducible first | exact HB.out | apply below_alloc | apply pw_below_drewN | apply below_drew1) | exact HB.out)))); have n1_ := Aside0.mk (below_step (by repeat (first | (with_reducible first | exact HB.out | apply below_alloc | apply pw_below_drewN | apply below_drew1) | exact HB.out)) hb); clear HB; have HO179 := n0_; have HB := n1_; clear n0_ n1_; clear hb ho29; obtain ⟨Ao30, co30, eo30⟩ := Kd.R_slice HO179.out; subst eo30) | (go_at_call 11; (with_reducible refine (jstring_Spell.calls k _ _ y177 t180 _ ?side1 ?side2 A3.out).mono ?_); (case side1 => repeat (first | exact (Kd.R_reads' HO179.out).2.2 | (with_reducible refine Kd.C_alloc ?_ _) | (with_reducible refine Kd.C_drewN ?_ _) | (with_reducible refine Kd.C_drew ?_))); (case side2 => exact (Kd.R_reads' HO179.out).2.1); rintro e w31 ⟨rfl, hb⟩; have n0_ := Aside0.mk (Kd.R_below (by (with_reducible repeat (first | apply Kd.R_alloc | apply Kd.R_drewN | apply Kd.R_drew)); exact HO179.out) hb); have n1_ := Aside0.mk (below_step (by repeat (first | (with_reducible first | exact HB.out | apply below_alloc | apply pw_below_drewN | apply below_drew1) | exact HB.out)) hb); clear HO179; clear HB; have HO179 := n0_; have HB := n1_; clear n0_ n1_; (try clear hb); (try clear hb2); (try clear hk); (try clear hi)))
      go_ret
      exact ⟨by first | rfl | (simp [errW_none, errW_some] <;> rfl) | (simp [*, errW_none, errW_some] <;> rfl), by repeat (first | (with_reducible first | exact HB.out | apply below_alloc | apply pw_below_drewN | apply below_drew1) | exact HB.out)⟩
  · rw [if_neg c2] at H
    have c2b0 : (t176.toList == ([34, 34] : List UInt8)) = false := beq_eq_false_iff_ne.mpr c2
    have c2b1 : (t176.toList != ([34, 34] : List UInt8)) = true := bne_iff_ne.mpr c2
    obtain rfl := Option.some.inj H
    go_enter Try.func8, Try.ntmps8
    go_wp2_with (first | ((with_reducible refine gate_callee (f := 11) rfl ?_); refine goesL_ (some 1) rfl rfl Try.func11 (by kernel_rfl) rfl #[.slice none 0 0] rfl (by (try simp only [List.map_toArray, List.map_cons, List.map_nil]); first | done | rfl | (simp only [List.length_drop, List.length_take]; rfl)) ?_; (refine (jstring_Spell.calls k _ _ ([] : List Int) t176 _ ?side1 ?side2 A1.out).mono ?_); (case side1 => exact Kd.C_nil _ _); (case side2 => exact Nat.le_refl _); rintro e w32 ⟨rfl, hb⟩; refine ⟨_, rfl, ?_⟩; have n0_ := Aside0.mk (below_step (by repeat (first | (with_reducible first | exact HB.out | apply below_alloc | apply pw_below_drewN | apply below_drew1) | exact HB.out)) hb); clear HB; have HB := n0_; clear n0_; (try clear hb); (try clear hb2); (try clear hk); (try clear hi)))
    go_ret
    exact ⟨by first | rfl | (simp [errW_none, errW_some] <;> rfl) | (simp [*, errW_none, errW_some] <;> rfl), by repeat (first | (with_reducible first | exact HB.out | apply below_alloc | apply pw_below_drewN | apply below_drew1) | exact HB.out)⟩

end Go.Proofs.Ytcioifijkonplaa.Q
