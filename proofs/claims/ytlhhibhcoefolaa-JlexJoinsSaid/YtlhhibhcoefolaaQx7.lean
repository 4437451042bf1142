-- Written by a program of this session (wip/tools/print2.sh), out of the translation, for this claim. Lean checks it.
import Derived.Test.YtlhhibhcoefolaaQx0
import Derived.Test.YtlhhibhcoefolaaQx3
import Derived.Test.YtlhhibhcoefolaaQx6
namespace Go.Proofs.Ytlhhibhcoefolaa.Q
open Go.RowKit Go.Proofs.YtlhhibhcoefolaaW.PrintWords Go.Proofs.YtlhhibhcoefolaaW.PrintLast Go.Proofs.YtlhhibhcoefolaaW.PrintMore
attribute [local go_sem] max2_int min2_int max_two min_two max_three min_three max_four min_four   -- for this text's walks alone
set_option linter.unusedVariables false
set_option linter.unusedSimpArgs false

/-! ### utf_Valid: function 11 -/
def utf_Valid.l0 : Nat → List Int → Int → Option (Int × Bool)
  | 0, _, _ => none
  | k + 1, x0, x4 => if x4 < (x0.length : Int) then ((utf_Next.f k x0 x4).bind fun bt115 => (if bt115.2.2 = true then (utf_Valid.l0 k x0 (wrap64 (x4 + bt115.2.1))) else (some (x4, false)))) else (some (x4, true))
def utf_Valid.f (k : Nat) (l0 : List Int) : Option (Int × Bool) := utf_Valid.l0 k l0 0
theorem utf_Valid.mono_l : ∀ k, (∀ y0 y1, LeO (utf_Valid.l0 k y0 y1) (utf_Valid.l0 (k + 1) y0 y1))
  | 0 => fun _ _ r h => by simp [utf_Valid.l0] at h
  | k + 1 => by
    have ih0 := utf_Valid.mono_l k
    · intro y0 y1
      unfold utf_Valid.l0
      repeat' first
      | (with_reducible exact ih0 _ _)
      | (with_reducible exact utf_Next.mono _ _ _)
      | (with_reducible exact LeO.refl _)
      | (with_reducible exact LeO.none _)
      | (with_reducible refine LeO.ite ?_ ?_)
      | (with_reducible refine LeO.bind ?_ (fun _ => ?_))
      | exact ih0 _ _
      | exact utf_Next.mono _ _ _
      | exact LeO.none _
      | refine LeO.ite ?_ ?_
      | refine LeO.bind ?_ (fun _ => ?_)
theorem utf_Valid.mono : ∀ a0 k, LeO (utf_Valid.f k a0) (utf_Valid.f (k + 1) a0) := by
  intro a0 k
  have ih0 := utf_Valid.mono_l k
  unfold utf_Valid.f
  repeat' first
      | (with_reducible exact ih0 _ _)
      | (with_reducible exact utf_Next.mono _ _ _)
      | (with_reducible exact LeO.refl _)
      | (with_reducible exact LeO.none _)
      | (with_reducible refine LeO.ite ?_ ?_)
      | (with_reducible refine LeO.bind ?_ (fun _ => ?_))
      | exact ih0 _ _
      | exact utf_Next.mono _ _ _
      | exact LeO.none _
      | refine LeO.ite ?_ ?_
      | refine LeO.bind ?_ (fun _ => ?_)
set_option maxHeartbeats 8000000 in
set_option maxRecDepth 100000 in
theorem utf_Valid.calls (k : Nat) (A0 : Option Addr) (c0 : Nat) (l0 : List Int) (r1 : Int) (r2 : Bool) (w : World) (hr0 : Kd.C (Kd.int .u8) w A0 l0.length l0) (hc0 : l0.length ≤ c0) (h : utf_Valid.f k l0 = some (r1, r2)) :
    Calls Try.prog 11 #[.slice A0 l0.length c0] w fun e w' => e = .returned (.tuple #[.int .i64 r1, .bool r2]) ∧ Drawn0 w w' := by
  have HR0 := Aside0.mk hr0
  have HC0 := Aside0.mk hc0
  clear hr0 hc0
  have H : (utf_Valid.l0 k l0 0) = some (r1, r2) := h
  clear h
  have H' := Aside0.mk H
  clear H
  go_enter Try.func11, Try.ntmps11
  go_wp2
  go_loopg [4] k (fun kq v4 w' => ∃ (x4_1 : Int), v4 = .int .i64 x4_1 ∧ Aside0 (utf_Valid.l0 kq l0 x4_1 = some (r1, r2)) ∧ Aside0 (kq ≤ k) ∧ Drawn0 w w')
  case atStart => exact ⟨(0), (by first | rfl | (simp; done) | (simp [*]; done)), H', ⟨Nat.le_refl _⟩, by repeat (first | exact Drawn0.refl _ | apply Drawn0.step)⟩
  case round =>
    clear H'
    try clear c1
    obtain ⟨x4_1, rfl, HA, HK1, ⟨m1, rfl⟩⟩ := hrel
    cases gk with
    | zero => exact absurd HA.out (by simp [utf_Valid.l0])
    | succ k1 =>
      have H := HA.out
      clear HA
      simp only [utf_Valid.l0] at H
      by_cases c2 : x4_1 < (l0.length : Int)
      · rw [if_pos c2] at H
        have c2b0 : decide (x4_1 < (l0.length : Int)) = true := decide_eq_true c2
        clear c2
        replace H := Option.bind_eq_some_iff.mp H
        obtain ⟨⟨t115, t116, t117⟩, A30, H⟩ := H
        replace H : (if t117 = true then (utf_Valid.l0 k1 l0 (wrap64 (x4_1 + t116))) else (some (x4_1, false))) = some (r1, r2) := H
        have A3 := Aside0.mk A30
        clear A30
        by_cases c4 : t117 = true
        · subst c4
          have H1 : (utf_Valid.l0 k1 l0 (wrap64 (x4_1 + t116))) = some (r1, r2) := by rw [if_pos rfl] at H; exact H
          clear H
          have H := H1
          clear H1
          have H' := Aside0.mk H
          clear H
          go_wp2_with (first | ((with_reducible refine gate_callee (f := 20) rfl ?_); refine goesL_ (some 15) rfl rfl Try.func20 (by kernel_rfl) rfl #[.slice A0 l0.length c0, .int .i64 x4_1] rfl (by (try simp only [List.map_toArray, List.map_cons, List.map_nil]); first | done | rfl | (simp only [List.length_drop, List.length_take]; rfl)) ?_; (with_reducible refine (utf_Next.calls k1 _ _ l0 x4_1 t115 t116 true _ ?side1 ?side2 A3.out).mono ?_); (case side1 => repeat (first | exact HR0.out | (with_reducible refine Kd.C_alloc ?_ _) | (with_reducible refine Kd.C_drewN ?_ _) | (with_reducible refine Kd.C_drew ?_))); (case side2 => exact HC0.out); rintro e w' ⟨rfl, ⟨nd, rfl⟩⟩; refine ⟨_, rfl, ?_⟩))
          go_roundg k1
          case measure => have := HK1.out; omega
          case rel => exact ⟨(wrap64 (x4_1 + t116)), (by first | rfl | (simp; done) | (simp [*]; done)), H', ⟨by have := HK1.out; omega⟩, by repeat (first | exact Drawn0.refl _ | apply Drawn0.step)⟩
        · replace c4 := Bool.eq_false_iff.mpr c4
          subst c4
          have H1 : (some (x4_1, false)) = some (r1, r2) := by rw [if_neg (show ¬ (false = true) by decide)] at H; exact H
          clear H
          have H := H1
          clear H1
          simp only [Option.some.injEq, Prod.mk.injEq] at H
          obtain ⟨rfl, rfl⟩ := H
          go_wp2_with (first | ((with_reducible refine gate_callee (f := 20) rfl ?_); refine goesL_ (some 15) rfl rfl Try.func20 (by kernel_rfl) rfl #[.slice A0 l0.length c0, .int .i64 x4_1] rfl (by (try simp only [List.map_toArray, List.map_cons, List.map_nil]); first | done | rfl | (simp only [List.length_drop, List.length_take]; rfl)) ?_; (with_reducible refine (utf_Next.calls k1 _ _ l0 x4_1 t115 t116 false _ ?side1 ?side2 A3.out).mono ?_); (case side1 => repeat (first | exact HR0.out | (with_reducible refine Kd.C_alloc ?_ _) | (with_reducible refine Kd.C_drewN ?_ _) | (with_reducible refine Kd.C_drew ?_))); (case side2 => exact HC0.out); rintro e w' ⟨rfl, ⟨nd, rfl⟩⟩; refine ⟨_, rfl, ?_⟩))
          go_ret2
          exact ⟨by first | rfl | (simp; done) | (simp [*]; done), by repeat (first | exact Drawn0.refl _ | apply Drawn0.step)⟩
      · rw [if_neg c2] at H
        have c2b0 : decide (x4_1 < (l0.length : Int)) = false := decide_eq_false c2
        clear c2
        simp only [Option.some.injEq, Prod.mk.injEq] at H
        obtain ⟨rfl, rfl⟩ := H
        go_wp2
        go_ret2
        exact ⟨by first | rfl | (simp; done) | (simp [*]; done), by repeat (first | exact Drawn0.refl _ | apply Drawn0.step)⟩

/-! ### jlex_run: function 12 -/
def jlex_run.l0 : Nat → List Int → Int → (Int → Option Bool) → Option (Int)
  | 0, _, _, _ => none
  | k + 1, x0, x1, p => if x1 < (x0.length : Int) then (if 0 ≤ x1 then ((p (rd x0 x1)).bind fun t => (if t = true then (jlex_run.l0 k x0 (wrap64 (x1 + 1)) p) else (some x1))) else (none)) else (some x1)
def jlex_run.f (k : Nat) (l0 : List Int) (a1 : Int) (p : Int → Option Bool) : Option (Int) := jlex_run.l0 k l0 a1 p
theorem jlex_run.mono_l : ∀ k, (∀ y0 y1 y2, LeO (jlex_run.l0 k y0 y1 y2) (jlex_run.l0 (k + 1) y0 y1 y2))
  | 0 => fun _ _ _ r h => by simp [jlex_run.l0] at h
  | k + 1 => by
    have ih0 := jlex_run.mono_l k
    · intro y0 y1 y2
      unfold jlex_run.l0
      repeat' first
      | (with_reducible exact ih0 _ _ _)
      | (with_reducible exact LeO.refl _)
      | (with_reducible exact LeO.none _)
      | (with_reducible refine LeO.ite ?_ ?_)
      | (with_reducible refine LeO.bind ?_ (fun _ => ?_))
theorem jlex_run.mono : ∀ a0 a1 a2 k, LeO (jlex_run.f k a0 a1 a2) (jlex_run.f (k + 1) a0 a1 a2) := fun _ _ _ k => jlex_run.mono_l k _ _ _
set_option maxHeartbeats 8000000 in
set_option maxRecDepth 100000 in
theorem jlex_run.calls (k : Nat) (A0 : Option Addr) (c0 : Nat) (l0 : List Int) (a1 : Int) (p : Int → Option Bool) {F : Value} (r : Int) (w : World) (hr0 : Kd.C (Kd.int .u8) w A0 l0.length l0) (hc0 : l0.length ≤ c0) (hF : Fn1 Try.prog F p w) (h : jlex_run.f k l0 a1 p = some r) :
    Calls Try.prog 12 #[.slice A0 l0.length c0, .int .i64 a1, F] w fun e w' => e = .returned (.int .i64 r) ∧ Drawn0 w w' := by
  have HR0 := Aside0.mk hr0
  have HC0 := Aside0.mk hc0
  have HF := Aside0.mk hF
  clear hr0 hc0 hF
  have H' : Aside0 (jlex_run.l0 k l0 a1 p = some r) := ⟨h⟩
  clear h
  go_enter Try.func12, Try.ntmps12
  go_wp2
  go_loopg [1] k (fun kq v1 w' => ∃ (x1 : Int), v1 = .int .i64 x1 ∧ Aside0 (jlex_run.l0 kq l0 x1 p = some r) ∧ Aside0 (kq ≤ k) ∧ Drawn0 w w')
  case atStart => exact ⟨a1, (by first | rfl | (simp; done) | (simp [*]; done)), H', ⟨Nat.le_refl _⟩, by repeat (first | exact Drawn0.refl _ | apply Drawn0.step)⟩
  case round =>
    clear H'
    obtain ⟨x1, rfl, HA, HK1, ⟨m1, rfl⟩⟩ := hrel
    cases gk with
    | zero => exact absurd HA.out (by simp [jlex_run.l0])
    | succ k1 =>
      have H := HA.out
      clear HA
      simp only [jlex_run.l0] at H
      by_cases c1 : x1 < (l0.length : Int)
      · rw [if_pos c1] at H
        have c1b0 : decide (x1 < (l0.length : Int)) = true := decide_eq_true c1
        by_cases c2 : 0 ≤ x1
        · rw [if_pos c2] at H
          have c2b0 : decide (0 ≤ x1) = true := decide_eq_true c2
          obtain ⟨t, ht, H⟩ := Option.bind_eq_some_iff.mp H
          have ht' := Aside0.mk ht
          clear ht
          have p1 := c2
          have q1 := c1
          obtain ⟨ad, e1, hx⟩ := Kd.at_int HR0.out x1 p1 q1
          cases e1
          replace p1 := eq_true p1
          replace q1 := eq_true q1
          by_cases c3 : t = true
          · subst c3
            rw [if_pos rfl] at H
            have H' := Aside0.mk H
            clear H
            go_wp2_with ((with_reducible refine gate_calleew rfl ?_); refine call_fn1 (Fn1.drewN HF.out _) ht'.out rfl (by (try simp only [List.map_toArray, List.map_cons, List.map_nil]); first | done | rfl) rfl (some 17) rfl (by first | rfl | simp) ?_; intro n)
            go_roundg k1
            case measure => have := HK1.out; omega
            case rel => exact ⟨(wrap64 (x1 + 1)), (by first | rfl | (simp; done) | (simp [*]; done)), H', ⟨by have := HK1.out; omega⟩, by repeat (first | exact Drawn0.refl _ | apply Drawn0.step)⟩
          · replace c3 := Bool.eq_false_iff.mpr c3
            subst c3
            rw [if_neg (show ¬ (false = true) by decide)] at H
            obtain rfl := Option.some.inj H
            go_wp2_with ((with_reducible refine gate_calleew rfl ?_); refine call_fn1 (Fn1.drewN HF.out _) ht'.out rfl (by (try simp only [List.map_toArray, List.map_cons, List.map_nil]); first | done | rfl) rfl (some 17) rfl (by first | rfl | simp) ?_; intro n)
            go_ret
            exact ⟨by first | rfl | (simp; done) | (simp [*]; done), by repeat (first | exact Drawn0.refl _ | apply Drawn0.step)⟩
        · rw [if_neg c2] at H
          exact absurd H (by simp)
      · rw [if_neg c1] at H
        have c1b0 : decide (x1 < (l0.length : Int)) = false := decide_eq_false c1
        obtain rfl := Option.some.inj H
        go_wp2
        go_ret
        exact ⟨by first | rfl | (simp; done) | (simp [*]; done), by repeat (first | exact Drawn0.refl _ | apply Drawn0.step)⟩
/-! ### jlex_one: function 34 -/
def jlex_one.f (l0 : List Int) (a1 : Int) (p : Int → Option Bool) : Option (Bool) := if a1 < (l0.length : Int) then (if 0 ≤ a1 then p (rd l0 a1) else none) else some false
set_option maxHeartbeats 8000000 in
set_option maxRecDepth 100000 in
theorem jlex_one.calls (A0 : Option Addr) (c0 : Nat) (l0 : List Int) (a1 : Int) (p : Int → Option Bool) {F : Value} (r : Bool) (w : World) (hr0 : Kd.C (Kd.int .u8) w A0 l0.length l0) (hc0 : l0.length ≤ c0) (hF : Fn1 Try.prog F p w) (h : jlex_one.f l0 a1 p = some r) :
    Calls Try.prog 34 #[.slice A0 l0.length c0, .int .i64 a1, F] w fun e w' => e = .returned (.bool r) ∧ Drawn0 w w' := by
  unfold jlex_one.f at h
  go_enter Try.func34, Try.ntmps34
  by_cases c1 : a1 < (l0.length : Int)
  · rw [if_pos c1] at h
    have c1b0 : decide (a1 < (l0.length : Int)) = true := decide_eq_true c1
    by_cases c2 : 0 ≤ a1
    · rw [if_pos c2] at h
      have c2b0 : decide (0 ≤ a1) = true := decide_eq_true c2
      have p1 := c2
      have q1 := c1
      obtain ⟨ad, e1, hx⟩ := Kd.at_int hr0 a1 p1 q1
      cases e1
      replace p1 := eq_true p1
      replace q1 := eq_true q1
      have hF' := Aside0.mk hF
      have h' := Aside0.mk h
      clear hF h
      go_wp2_with ((with_reducible refine gate_calleew rfl ?_); refine call_fn1 hF'.out h'.out rfl (by (try simp only [List.map_toArray, List.map_cons, List.map_nil]); first | done | rfl) rfl (some 17) rfl (by first | rfl | simp) ?_; intro n)
      go_ret
      exact ⟨by first | rfl | simp, by repeat (first | exact Drawn0.refl _ | apply Drawn0.step)⟩
    · rw [if_neg c2] at h
      exact absurd h (by simp)
  · rw [if_neg c1] at h
    have c1b0 : decide (a1 < (l0.length : Int)) = false := decide_eq_false c1
    obtain rfl := Option.some.inj h
    go_wp2
    go_ret
    exact ⟨by first | rfl | simp, by repeat (first | exact Drawn0.refl _ | apply Drawn0.step)⟩
/-! ### jlex_eq: function 35 -/
def jlex_eq.p (s : ByteArray) : Int → Option Bool := fun c => (strings_IndexByte.f s c).bind fun t => some (decide (t ≥ 0))
def jlex_eq.f (a0 : ByteArray) : Option (Int → Option Bool) := some (jlex_eq.p a0)
set_option maxHeartbeats 8000000 in
set_option maxRecDepth 100000 in
theorem jlex_eq.one (s : ByteArray) (b : Nat) (c : Int) (r : Bool) (w : World) (hcell : w.cell? ⟨b, 0, none⟩ = some (.string s)) (h : jlex_eq.p s c = some r) :
    Calls Try.prog 40 #[.int .u8 c, .pointer (some ⟨b, 0, none⟩)] w fun e w' => e = .returned (.bool r) ∧ Drawn0 w w' := by
  obtain ⟨t, ht, h⟩ := Option.bind_eq_some_iff.mp h
  obtain rfl := Option.some.inj h
  go_enter Try.func40, Try.ntmps40
  go_wp2_with (go_at_call 21; refine (strings_IndexByte.calls s c t _ ht).mono ?_; rintro e w1 ⟨rfl, ⟨n, rfl⟩⟩)
  go_ret
  exact ⟨by first | rfl | simp, by repeat (first | exact Drawn0.refl _ | apply Drawn0.step)⟩
set_option maxHeartbeats 8000000 in
set_option maxRecDepth 100000 in
theorem jlex_eq.calls (a0 : ByteArray) (r : Int → Option Bool) (w : World) (h : jlex_eq.f a0 = some r) :
    Calls Try.prog 35 #[.string a0] w fun e w' => ∃ F, e = .returned F ∧ Fn1 Try.prog F r w' ∧ Below w.heap.size w w' := by
  simp only [jlex_eq.f, Option.some.injEq] at h
  subst h
  have hmf : ∀ (fn : Fn) (first cap : Array Value) (w : World), (Instr.makeFunc fn first cap).run Try.prog w = .ok (.func fn first cap) w := fun _ _ _ _ => by simp [Instr.makeFunc]
  go_enter Try.func35, Try.ntmps35
  go_wp2
  go_ret
  have hb : Below w.heap.size w (w.alloc (.cells #[.string a0] 9)) := (Below.refl w.heap.size w).alloc (Nat.le_refl _) _
  refine ⟨.func (.func 40) #[] #[.pointer (some ⟨w.heap.size, 0, none⟩)], rfl, ⟨40, _, #[.pointer (some ⟨w.heap.size, 0, none⟩)], rfl, Try.func40, by rfl, by rfl, ?_⟩, hb⟩
  intro w1 hb1 c r hr
  refine jlex_eq.one a0 w.heap.size c r w1 ?_ hr
  have h1 : (w.alloc (.cells #[.string a0] 9)).heap[w.heap.size]? = some (.cells #[.string a0] 9 (0, 0)) := by
    show (w.heap.push _)[w.heap.size]? = _
    simp
  have h2 := (hb1.block w.heap.size (by simp)).trans h1
  rw [cell_of_row _ _ _ _ _ _ h2]
  rfl
end Go.Proofs.Ytlhhibhcoefolaa.Q
