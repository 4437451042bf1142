/- The functions of the package utf, as they are printed in plain Lean, answer as the model Utf says. -/
import Derived.Test.YtcioifijkonplaaQx3
import Derived.Test.YtcioifijkonplaaQx4
import Derived.Test.YtcioifijkonplaaUtf
namespace Go.Proofs.Ytcioifijkonplaa.UtfEq
open Go.RowKit Go.Proofs.YtcioifijkonplaaW.PrintWords Go.Proofs.Ytcioifijkonplaa.Base Go.Proofs.Ytcioifijkonplaa.Utf Go.Proofs.Ytcioifijkonplaa.Q

theorem right_eq (r : Int) : utf_right.f r = some (decide (isCp r)) := by
  by_cases h : isCp r
  · rw [decide_eq_true h]
    unfold isCp at h
    unfold utf_right.f
    repeat' split
    all_goals first | rfl | omega | (rw [decide_eq_true (by omega)])
  · rw [decide_eq_false h]
    unfold isCp at h
    unfold utf_right.f
    repeat' split
    all_goals first | rfl | omega | (rw [decide_eq_false (by omega)])
theorem size_eq (r : Int) : utf_size.f r = some (size r) := by
  unfold utf_size.f size
  (repeat' split) <;> rfl

theorem wraps_i64 (n : Int) (h0 : 0 ≤ n) (h1 : n < 2 ^ 31) : IntKind.i64.wrap n = n := by rw [IntKind.wrap_i64]; omega
theorem i64_and63 {x : Int} (h0 : 0 ≤ x) (h1 : x < 2147483648) : bits .and .i64 x 63 = x % 64 :=
  bits_mask .i64 31 (by decide) wraps_i64 6 (by decide) x h0 h1
theorem i64_or128 {y : Int} (h0 : 0 ≤ y) (h1 : y < 64) : bits .or .i64 128 y = 128 + y :=
  bits_join .i64 31 (by decide) wraps_i64 6 128 y (by decide) (by decide) (by decide) h0 h1 (by omega)
theorem i64_or192 {y : Int} (h0 : 0 ≤ y) (h1 : y < 32) : bits .or .i64 192 y = 192 + y :=
  bits_join .i64 31 (by decide) wraps_i64 6 192 y (by decide) (by decide) (by decide) h0 (by omega) (by omega)
theorem i64_or224 {y : Int} (h0 : 0 ≤ y) (h1 : y < 16) : bits .or .i64 224 y = 224 + y :=
  bits_join .i64 31 (by decide) wraps_i64 5 224 y (by decide) (by decide) (by decide) h0 (by omega) (by omega)
theorem i64_or240 {y : Int} (h0 : 0 ≤ y) (h1 : y < 16) : bits .or .i64 240 y = 240 + y :=
  bits_join .i64 31 (by decide) wraps_i64 4 240 y (by decide) (by decide) (by decide) h0 (by omega) (by omega)
theorem i64_or6 {x y : Int} (hx : 0 ≤ x) (hx1 : x < 33554432) (h0 : 0 ≤ y) (h1 : y < 64) : bits .or .i64 (x * 64) y = x * 64 + y :=
  bits_join .i64 31 (by decide) wraps_i64 6 (x * 64) y (by omega) (by omega) (by omega) h0 h1 (by omega)
theorem andNot_cont {c : Int} (h0 : 0 ≤ c) (h1 : c < 256) : bits .andNot .u8 c 63 = 128 ↔ cont c := by
  have key : ∀ n : Fin 256, (bits .andNot .u8 ((n.val : Nat) : Int) 63 = 128) ↔ cont ((n.val : Nat) : Int) := by decide +kernel
  obtain ⟨n, rfl⟩ := Int.eq_ofNat_of_zero_le h0
  exact key ⟨n, by omega⟩
theorem and_cont {c : Int} (h0 : 0 ≤ c) (h1 : c < 256) : bits .and .u8 c 192 = 128 ↔ cont c := by
  have key : ∀ n : Fin 256, (bits .and .u8 ((n.val : Nat) : Int) 192 = 128) ↔ cont ((n.val : Nat) : Int) := by decide +kernel
  obtain ⟨n, rfl⟩ := Int.eq_ofNat_of_zero_le h0
  exact key ⟨n, by omega⟩

/-- The bytes that the code writes are those of the model. -/
theorem bytes2 {r : Int} (h : isCp r) (h1 : 128 ≤ r) (h2 : r < 2048) : [(bits .or .i64 192 (r / 64)) % 256, (bits .or .i64 128 (bits .and .i64 r 63)) % 256] = enc r := by
  unfold isCp at h
  rw [i64_and63 (by omega) (by omega), i64_or192 (by omega) (by omega), i64_or128 (by omega) (by omega)]
  unfold enc
  rw [if_neg (by omega), if_pos (by omega), Int.emod_eq_of_lt (by omega) (by omega), Int.emod_eq_of_lt (by omega) (by omega)]
theorem bytes3 {r : Int} (h : isCp r) (h1 : 2048 ≤ r) (h2 : r < 65536) : [(bits .or .i64 224 (r / 4096)) % 256, (bits .or .i64 128 (bits .and .i64 (r / 64) 63)) % 256, (bits .or .i64 128 (bits .and .i64 r 63)) % 256] = enc r := by
  unfold isCp at h
  rw [i64_and63 (x := r) (by omega) (by omega), i64_and63 (x := r / 64) (by omega) (by omega), i64_or224 (by omega) (by omega), i64_or128 (y := r / 64 % 64) (by omega) (by omega), i64_or128 (y := r % 64) (by omega) (by omega)]
  unfold enc
  rw [if_neg (by omega), if_neg (by omega), if_pos (by omega), Int.emod_eq_of_lt (a := 224 + r / 4096) (by omega) (by omega), Int.emod_eq_of_lt (a := 128 + r / 64 % 64) (by omega) (by omega), Int.emod_eq_of_lt (a := 128 + r % 64) (by omega) (by omega)]
theorem bytes4 {r : Int} (h : isCp r) (h1 : 65536 ≤ r) : [(bits .or .i64 240 (r / 262144)) % 256, (bits .or .i64 128 (bits .and .i64 (r / 4096) 63)) % 256, (bits .or .i64 128 (bits .and .i64 (r / 64) 63)) % 256, (bits .or .i64 128 (bits .and .i64 r 63)) % 256] = enc r := by
  unfold isCp at h
  rw [i64_and63 (x := r) (by omega) (by omega), i64_and63 (x := r / 64) (by omega) (by omega), i64_and63 (x := r / 4096) (by omega) (by omega), i64_or240 (by omega) (by omega), i64_or128 (y := r / 4096 % 64) (by omega) (by omega), i64_or128 (y := r / 64 % 64) (by omega) (by omega), i64_or128 (y := r % 64) (by omega) (by omega)]
  unfold enc
  rw [if_neg (by omega), if_neg (by omega), if_neg (by omega), Int.emod_eq_of_lt (a := 240 + r / 262144) (by omega) (by omega), Int.emod_eq_of_lt (a := 128 + r / 4096 % 64) (by omega) (by omega), Int.emod_eq_of_lt (a := 128 + r / 64 % 64) (by omega) (by omega), Int.emod_eq_of_lt (a := 128 + r % 64) (by omega) (by omega)]
theorem bytes1 {r : Int} (h : isCp r) (h1 : r < 128) : [r % 256] = enc r := by
  unfold isCp at h
  unfold enc
  rw [if_pos h1, Int.emod_eq_of_lt (by omega) (by omega)]
theorem enc_len {r : Int} : (enc r).length ≤ 4 := by
  have := @enc_size r
  have := size_range r
  omega

theorem put_j0 {l : List Int} {r : Int} (h : isCp r) (hl : l.length < 140737488355000) : Evt (fun k => utf_Put.j0 k l r) (l ++ enc r) := by
  apply Evt.succ
  have h' := h
  unfold isCp at h'
  simp only [utf_Put.j0, List.length_nil, Nat.zero_add, List.nil_append, Option.bind_some, size_eq]
  rw [if_pos (by omega)]
  unfold size
  split
  · rw [if_pos rfl, if_pos (by omega), bytes1 h (by assumption)]; exact Evt.const _
  · split
    · simp only [show ¬ ((2 : Int) = 1) by decide, if_false, if_true]
      rw [if_pos (by simp only [List.length_cons, List.length_nil]; omega), bytes2 h (by omega) (by omega)]; exact Evt.const _
    · split
      · simp only [show ¬ ((3 : Int) = 1) by decide, show ¬ ((3 : Int) = 2) by decide, if_false, if_true]
        rw [if_pos (by simp only [List.length_cons, List.length_nil]; omega), bytes3 h (by omega) (by omega)]; exact Evt.const _
      · simp only [show ¬ ((4 : Int) = 1) by decide, show ¬ ((4 : Int) = 2) by decide, show ¬ ((4 : Int) = 3) by decide, if_false]
        rw [if_pos (by simp only [List.length_cons, List.length_nil]; omega), bytes4 h (by omega)]; exact Evt.const _
theorem put_ev (l : List Int) (r : Int) (hl : l.length < 140737488355000) : Evt (fun k => utf_Put.f k l r) (l ++ put r) := by
  simp only [utf_Put.f, right_eq, Option.bind_some, decide_eq_true_iff]
  unfold put fix
  split
  · exact put_j0 (by assumption) hl
  · exact put_j0 (by decide) hl


end Go.Proofs.Ytcioifijkonplaa.UtfEq
