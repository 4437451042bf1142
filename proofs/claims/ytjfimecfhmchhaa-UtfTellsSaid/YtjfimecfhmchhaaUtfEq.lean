/- The functions of the package utf, as they are printed in plain Lean, answer as the model Utf says. -/
import Derived.Test.YtjfimecfhmchhaaQx1
import Derived.Test.YtjfimecfhmchhaaQx2
import Derived.Test.YtjfimecfhmchhaaQx3
import Derived.Test.YtjfimecfhmchhaaQx4
import Derived.Test.YtjfimecfhmchhaaQx8
import Derived.Test.YtjfimecfhmchhaaUtf
namespace Go.Proofs.Ytjfimecfhmchhaa.UtfEq
open Go.RowKit Go.Proofs.YtjfimecfhmchhaaW.PrintWords Go.Proofs.Ytjfimecfhmchhaa.Base Go.Proofs.Ytjfimecfhmchhaa.Utf Go.Proofs.Ytjfimecfhmchhaa.Q

theorem right_eq (r : Int) : utf_right.f r = some (decide (isCp r)) := by
  by_cases h : isCp r
  · rw [decide_eq_true h]
    unfold isCp at h
    unfold utf_right.f
    repeat' split
    all_goals first | rfl | omega | (rw [decide_eq_true (by omega)])
  · rw [decide_eq_false h]
    unfold isCp at h
    unfold utf_right.f
    repeat' split
    all_goals first | rfl | omega | (rw [decide_eq_false (by omega)])
theorem size_eq (r : Int) : utf_size.f r = some (size r) := by
  unfold utf_size.f size
  (repeat' split) <;> rfl
theorem units_eq (r : Int) : utf_Units.f r = some (if r ≥ 65536 then 2 else 1) := by
  unfold utf_Units.f
  split <;> rfl

theorem wraps_i64 (n : Int) (h0 : 0 ≤ n) (h1 : n < 2 ^ 31) : IntKind.i64.wrap n = n := by rw [IntKind.wrap_i64]; omega
theorem i64_and63 {x : Int} (h0 : 0 ≤ x) (h1 : x < 2147483648) : bits .and .i64 x 63 = x % 64 :=
  bits_mask .i64 31 (by decide) wraps_i64 6 (by decide) x h0 h1
theorem i64_or128 {y : Int} (h0 : 0 ≤ y) (h1 : y < 64) : bits .or .i64 128 y = 128 + y :=
  bits_join .i64 31 (by decide) wraps_i64 6 128 y (by decide) (by decide) (by decide) h0 h1 (by omega)
theorem i64_or192 {y : Int} (h0 : 0 ≤ y) (h1 : y < 32) : bits .or .i64 192 y = 192 + y :=
  bits_join .i64 31 (by decide) wraps_i64 6 192 y (by decide) (by decide) (by decide) h0 (by omega) (by omega)
theorem i64_or224 {y : Int} (h0 : 0 ≤ y) (h1 : y < 16) : bits .or .i64 224 y = 224 + y :=
  bits_join .i64 31 (by decide) wraps_i64 5 224 y (by decide) (by decide) (by decide) h0 (by omega) (by omega)
theorem i64_or240 {y : Int} (h0 : 0 ≤ y) (h1 : y < 16) : bits .or .i64 240 y = 240 + y :=
  bits_join .i64 31 (by decide) wraps_i64 4 240 y (by decide) (by decide) (by decide) h0 (by omega) (by omega)
theorem i64_or6 {x y : Int} (hx : 0 ≤ x) (hx1 : x < 33554432) (h0 : 0 ≤ y) (h1 : y < 64) : bits .or .i64 (x * 64) y = x * 64 + y :=
  bits_join .i64 31 (by decide) wraps_i64 6 (x * 64) y (by omega) (by omega) (by omega) h0 h1 (by omega)
theorem andNot_cont {c : Int} (h0 : 0 ≤ c) (h1 : c < 256) : bits .andNot .u8 c 63 = 128 ↔ cont c := by
  have key : ∀ n : Fin 256, (bits .andNot .u8 ((n.val : Nat) : Int) 63 = 128) ↔ cont ((n.val : Nat) : Int) := by decide +kernel
  obtain ⟨n, rfl⟩ := Int.eq_ofNat_of_zero_le h0
  exact key ⟨n, by omega⟩
theorem and_cont {c : Int} (h0 : 0 ≤ c) (h1 : c < 256) : bits .and .u8 c 192 = 128 ↔ cont c := by
  have key : ∀ n : Fin 256, (bits .and .u8 ((n.val : Nat) : Int) 192 = 128) ↔ cont ((n.val : Nat) : Int) := by decide +kernel
  obtain ⟨n, rfl⟩ := Int.eq_ofNat_of_zero_le h0
  exact key ⟨n, by omega⟩

/-- The bytes that the code writes are those of the model. -/
theorem bytes2 {r : Int} (h : isCp r) (h1 : 128 ≤ r) (h2 : r < 2048) : [(bits .or .i64 192 (r / 64)) % 256, (bits .or .i64 128 (bits .and .i64 r 63)) % 256] = enc r := by
  unfold isCp at h
  rw [i64_and63 (by omega) (by omega), i64_or192 (by omega) (by omega), i64_or128 (by omega) (by omega)]
  unfold enc
  rw [if_neg (by omega), if_pos (by omega), Int.emod_eq_of_lt (by omega) (by omega), Int.emod_eq_of_lt (by omega) (by omega)]
theorem bytes3 {r : Int} (h : isCp r) (h1 : 2048 ≤ r) (h2 : r < 65536) : [(bits .or .i64 224 (r / 4096)) % 256, (bits .or .i64 128 (bits .and .i64 (r / 64) 63)) % 256, (bits .or .i64 128 (bits .and .i64 r 63)) % 256] = enc r := by
  unfold isCp at h
  rw [i64_and63 (x := r) (by omega) (by omega), i64_and63 (x := r / 64) (by omega) (by omega), i64_or224 (by omega) (by omega), i64_or128 (y := r / 64 % 64) (by omega) (by omega), i64_or128 (y := r % 64) (by omega) (by omega)]
  unfold enc
  rw [if_neg (by omega), if_neg (by omega), if_pos (by omega), Int.emod_eq_of_lt (a := 224 + r / 4096) (by omega) (by omega), Int.emod_eq_of_lt (a := 128 + r / 64 % 64) (by omega) (by omega), Int.emod_eq_of_lt (a := 128 + r % 64) (by omega) (by omega)]
theorem bytes4 {r : Int} (h : isCp r) (h1 : 65536 ≤ r) : [(bits .or .i64 240 (r / 262144)) % 256, (bits .or .i64 128 (bits .and .i64 (r / 4096) 63)) % 256, (bits .or .i64 128 (bits .and .i64 (r / 64) 63)) % 256, (bits .or .i64 128 (bits .and .i64 r 63)) % 256] = enc r := by
  unfold isCp at h
  rw [i64_and63 (x := r) (by omega) (by omega), i64_and63 (x := r / 64) (by omega) (by omega), i64_and63 (x := r / 4096) (by omega) (by omega), i64_or240 (by omega) (by omega), i64_or128 (y := r / 4096 % 64) (by omega) (by omega), i64_or128 (y := r / 64 % 64) (by omega) (by omega), i64_or128 (y := r % 64) (by omega) (by omega)]
  unfold enc
  rw [if_neg (by omega), if_neg (by omega), if_neg (by omega), Int.emod_eq_of_lt (a := 240 + r / 262144) (by omega) (by omega), Int.emod_eq_of_lt (a := 128 + r / 4096 % 64) (by omega) (by omega), Int.emod_eq_of_lt (a := 128 + r / 64 % 64) (by omega) (by omega), Int.emod_eq_of_lt (a := 128 + r % 64) (by omega) (by omega)]
theorem bytes1 {r : Int} (h : isCp r) (h1 : r < 128) : [r % 256] = enc r := by
  unfold isCp at h
  unfold enc
  rw [if_pos h1, Int.emod_eq_of_lt (by omega) (by omega)]
theorem enc_len {r : Int} : (enc r).length ≤ 4 := by
  have := @enc_size r
  have := size_range r
  omega

theorem put_j0 {l : List Int} {r : Int} (h : isCp r) (hl : l.length < 140737488355000) : Evt (fun k => utf_Put.j0 k l r) (l ++ enc r) := by
  apply Evt.succ
  have h' := h
  unfold isCp at h'
  simp only [utf_Put.j0, List.length_nil, Nat.zero_add, List.nil_append, Option.bind_some, size_eq]
  rw [if_pos (by omega)]
  unfold size
  split
  · rw [if_pos rfl, if_pos (by omega), bytes1 h (by assumption)]; exact Evt.const _
  · split
    · simp only [show ¬ ((2 : Int) = 1) by decide, if_false, if_true]
      rw [if_pos (by simp only [List.length_cons, List.length_nil]; omega), bytes2 h (by omega) (by omega)]; exact Evt.const _
    · split
      · simp only [show ¬ ((3 : Int) = 1) by decide, show ¬ ((3 : Int) = 2) by decide, if_false, if_true]
        rw [if_pos (by simp only [List.length_cons, List.length_nil]; omega), bytes3 h (by omega) (by omega)]; exact Evt.const _
      · simp only [show ¬ ((4 : Int) = 1) by decide, show ¬ ((4 : Int) = 2) by decide, show ¬ ((4 : Int) = 3) by decide, if_false]
        rw [if_pos (by simp only [List.length_cons, List.length_nil]; omega), bytes4 h (by omega)]; exact Evt.const _
theorem put_ev (l : List Int) (r : Int) (hl : l.length < 140737488355000) : Evt (fun k => utf_Put.f k l r) (l ++ put r) := by
  simp only [utf_Put.f, right_eq, Option.bind_some, decide_eq_true_iff]
  unfold put fix
  split
  · exact put_j0 (by assumption) hl
  · exact put_j0 (by decide) hl

/-- What the first byte tells. -/
def lead (c : Int) : Int × Int := if c < 128 then (1, c) else if 194 ≤ c ∧ c < 224 then (2, c - 192) else if 224 ≤ c ∧ c < 240 then (3, c - 224) else if 240 ≤ c ∧ c < 245 then (4, c - 240) else (0, 0)
theorem lead_ev (c : Int) (h0 : 0 ≤ c) (h1 : c < 256) : Evt (fun k => utf_lead.f k c) (lead c) := by
  have e31 := u8_and31 c h0 h1
  have e15 := u8_and15 c h0 h1
  have e7 := u8_and7 c h0 h1
  simp only [utf_lead.f]
  by_cases c1 : c < 128
  · refine Evt.pos c1 ?_
    rw [wrap64_in (by omega) (by omega), lead, if_pos c1]; exact Evt.const _
  refine Evt.neg c1 ?_
  by_cases c2 : c < 194
  · refine Evt.neg (by omega) ?_
    refine Evt.succ ?_
    simp only [utf_lead.j0, Bool.false_eq_true, if_false]
    refine Evt.neg (by omega) ?_
    refine Evt.succ ?_
    simp only [utf_lead.j1, Bool.false_eq_true, if_false]
    refine Evt.neg (by omega) ?_
    rw [lead, if_neg c1, if_neg (by omega), if_neg (by omega), if_neg (by omega)]; exact Evt.const _
  refine Evt.pos (by omega) ?_
  refine Evt.succ ?_
  simp only [utf_lead.j0, decide_eq_true_iff]
  by_cases c3 : c < 224
  · refine Evt.pos c3 ?_
    rw [e31, wrap64_in (by omega) (by omega), show c % 32 = c - 192 by omega, lead, if_neg c1, if_pos (by omega)]; exact Evt.const _
  refine Evt.neg c3 ?_
  refine Evt.pos (by omega) ?_
  refine Evt.succ ?_
  simp only [utf_lead.j1, decide_eq_true_iff]
  by_cases c4 : c < 240
  · refine Evt.pos c4 ?_
    rw [e15, wrap64_in (by omega) (by omega), show c % 16 = c - 224 by omega, lead, if_neg c1, if_neg (by omega), if_pos (by omega)]; exact Evt.const _
  refine Evt.neg c4 ?_
  refine Evt.pos (by omega) ?_
  by_cases c5 : c < 245
  · refine Evt.pos c5 ?_
    rw [e7, wrap64_in (by omega) (by omega), show c % 8 = c - 240 by omega, lead, if_neg c1, if_neg (by omega), if_neg (by omega), if_pos (by omega)]; exact Evt.const _
  refine Evt.neg c5 ?_
  rw [lead, if_neg c1, if_neg (by omega), if_neg (by omega), if_neg (by omega)]; exact Evt.const _

/-- One more byte of a code point. -/
theorem l0_step {n x : Int} {l : List Int} {i : Int} {c : Int} {R : Int × Int × Bool} (hi0 : 0 ≤ i) (hi1 : i < (l.length : Int)) (hn : (l.length : Int) ≤ 3) (hc : rd l i = c) (hc0 : 0 ≤ c) (hc1 : c < 256) (hx0 : 0 ≤ x) (hx1 : x < 33554432)
    (h : cont c → Evt (fun k => utf_Next.l0 k n (x * 64 + (c - 128)) l (l.length : Int) (i + 1)) R) (hb : ¬ cont c → R = bad) : Evt (fun k => utf_Next.l0 k n x l (l.length : Int) i) R := by
  refine Evt.succ ?_
  simp only [utf_Next.l0, hc]
  refine Evt.pos hi1 (Evt.pos hi0 (Evt.pos hi1 ?_))
  by_cases hk : cont c
  · have hk' := hk
    unfold cont at hk'
    refine Evt.pos ((andNot_cont hc0 hc1).2 hk) ?_
    simp only [u8_and63 c hc0 hc1]
    rw [wrap64_in (n := x * 64) (by omega) (by omega), wrap64_in (n := c % 64) (by omega) (by omega), wrap64_in (n := i + 1) (by omega) (by omega), i64_or6 hx0 hx1 (by omega) (by omega), show c % 64 = c - 128 by omega]
    exact h hk
  · refine Evt.neg (fun h2 => hk ((andNot_cont hc0 hc1).1 h2)) ?_
    rw [hb hk]
    exact Evt.const _
theorem l0_end {n x : Int} {l : List Int} : Evt (fun k => utf_Next.l0 k n x l (l.length : Int) (l.length : Int)) (fin x n) := by
  refine Evt.succ ?_
  simp only [utf_Next.l0, right_eq, size_eq, Option.bind_some]
  refine Evt.neg (by omega) ?_
  unfold fin bad
  by_cases h : isCp x
  · rw [decide_eq_true h, if_pos rfl]
    by_cases h2 : size x = n
    · rw [if_pos h2, if_pos ⟨h, h2⟩]; exact Evt.const _
    · rw [if_neg h2, if_neg (fun h => h2 h.2)]; exact Evt.const _
  · rw [decide_eq_false h, if_neg (by simp), if_neg (fun h2 => h h2.1)]; exact Evt.const _

theorem cut_at (a : List Int) (c : Int) (t : List Int) (n : Nat) : ((a ++ c :: t).take (a.length + (n + 1))).drop (a.length + 1) = t.take n := by
  rw [List.take_length_add_append, List.drop_length_add_append]
  rfl
theorem toNat_add (a : List Int) (n : Nat) : ((a.length : Int) + (n : Int)).toNat = a.length + n := by omega

/-- utf.Next, at a place where a byte stands. -/
theorem next_at (a : List Int) (c : Int) (t : List Int) (hb : Bytes (c :: t)) (hl : ((a ++ c :: t).length : Int) ≤ 140737488355328) : Evt (fun k => utf_Next.f k (a ++ c :: t) (a.length : Int)) (dec (c :: t)) := by
  have hc := hb.head
  have ht := hb.tail
  simp only [List.length_append, List.length_cons] at hl
  simp only [utf_Next.f]
  refine Evt.neg (by omega) ?_
  simp only [List.length_append, List.length_cons]
  rw [decide_eq_false (by omega)]
  refine Evt.succ ?_
  simp only [utf_Next.j0, Bool.false_eq_true, if_false, rd_append, List.length_append, List.length_cons]
  refine Evt.pos (by omega) (Evt.pos (by omega) (Evt.bind (lead_ev c hc.1 hc.2) ?_))
  rw [wrap64_in (n := ((a.length + (t.length + 1) : Nat) : Int) - (a.length : Int)) (by omega) (by omega)]
  -- the number of bytes that are wanted, and whether they are there
  have cut : ∀ n : Nat, n ≤ 3 → n ≤ t.length → ∀ x : Int, ∀ R, Evt (fun k => utf_Next.l0 k ((n : Int) + 1) x (t.take n) (n : Int) 0) R → ∀ b : Bool, b = false → Evt (fun k => utf_Next.j1 k (a ++ c :: t) (a.length : Int) ((n : Int) + 1) x b) R := by
    intro n hn hn2 x R h b hbf
    subst hbf
    refine Evt.succ ?_
    simp only [utf_Next.j1, Bool.false_eq_true, if_false, List.length_append, List.length_cons]
    rw [wrap64_in (n := (a.length : Int) + 1) (by omega) (by omega), wrap64_in (n := (a.length : Int) + ((n : Int) + 1)) (by omega) (by omega)]
    refine Evt.pos (by omega) (Evt.pos (by omega) (Evt.pos (by omega) ?_))
    rw [show ((a.length : Int) + ((n : Int) + 1)).toNat = a.length + (n + 1) by omega, show ((a.length : Int) + 1).toNat = a.length + 1 by omega, cut_at]
    simp only [Option.bind_some, List.length_take]
    rw [Nat.min_eq_left hn2]
    exact h
  have few : ∀ n x : Int, ∀ b : Bool, b = true → Evt (fun k => utf_Next.j1 k (a ++ c :: t) (a.length : Int) n x b) bad := by
    intro n x b hbt
    subst hbt
    refine Evt.succ ?_
    simp only [utf_Next.j1, if_true]
    exact Evt.const _
  simp only [dec]
  unfold lead
  by_cases c1 : c < 128
  · simp only [if_pos c1]
    refine Evt.neg (by omega) ?_
    refine cut 0 (by omega) (by omega) c _ ?_ _ (decide_eq_false (by omega))
    have := @l0_end 1 c []
    simp only [fin, size, if_pos c1] at this
    rw [if_pos ⟨by unfold isCp; omega, trivial⟩] at this
    exact this
  simp only [if_neg c1]
  by_cases c2 : 194 ≤ c ∧ c < 224
  · simp only [if_pos c2]
    refine Evt.neg (by omega) ?_
    rcases t with _ | ⟨d, t⟩
    · exact few _ _ _ (decide_eq_true (by simp; omega))
    · skip
      have hd := ht.head
      simp only [List.length_cons] at hl
      refine cut 1 (by omega) (by simp) (c - 192) _ ?_ _ (decide_eq_false (by simp only [List.length_cons]; omega))
      have h1 : rd [d] 0 = d := rfl
      simp only [List.take_succ_cons, List.take_zero]
      refine l0_step (l := [d]) (c := d) (by omega) (by simp) (by simp) h1 hd.1 hd.2 (by omega) (by omega) (fun hk => ?_) (fun hk => if_neg hk)
      rw [if_pos hk]
      exact @l0_end 2 _ [d]
  simp only [if_neg c2]
  by_cases c3 : 224 ≤ c ∧ c < 240
  · simp only [if_pos c3]
    refine Evt.neg (by omega) ?_
    rcases t with _ | ⟨d, _ | ⟨e, t⟩⟩
    · exact few _ _ _ (decide_eq_true (by simp; omega))
    · exact few _ _ _ (decide_eq_true (by simp; omega))
    · skip
      have hd := ht.head
      have he := ht.tail.head
      simp only [List.length_cons] at hl
      refine cut 2 (by omega) (by simp) (c - 224) _ ?_ _ (decide_eq_false (by simp only [List.length_cons]; omega))
      simp only [List.take_succ_cons, List.take_zero]
      refine l0_step (l := [d, e]) (c := d) (by omega) (by simp) (by simp) rfl hd.1 hd.2 (by omega) (by omega) (fun hk => ?_) (fun hk => if_neg (fun h => hk h.1))
      have hk' := hk
      unfold cont at hk'
      refine l0_step (l := [d, e]) (c := e) (by omega) (by simp) (by simp) rfl he.1 he.2 (by omega) (by omega) (fun hk2 => ?_) (fun hk2 => if_neg (fun h => hk2 h.2))
      rw [if_pos ⟨hk, hk2⟩, show (c - 224) * 4096 + (d - 128) * 64 + (e - 128) = ((c - 224) * 64 + (d - 128)) * 64 + (e - 128) by omega]
      exact @l0_end 3 _ [d, e]
  simp only [if_neg c3]
  by_cases c4 : 240 ≤ c ∧ c < 245
  · simp only [if_pos c4]
    refine Evt.neg (by omega) ?_
    rcases t with _ | ⟨d, _ | ⟨e, _ | ⟨f, t⟩⟩⟩
    · exact few _ _ _ (decide_eq_true (by simp; omega))
    · exact few _ _ _ (decide_eq_true (by simp; omega))
    · exact few _ _ _ (decide_eq_true (by simp; omega))
    · skip
      have hd := ht.head
      have he := ht.tail.head
      have hf := ht.tail.tail.head
      simp only [List.length_cons] at hl
      refine cut 3 (by omega) (by simp) (c - 240) _ ?_ _ (decide_eq_false (by simp only [List.length_cons]; omega))
      simp only [List.take_succ_cons, List.take_zero]
      refine l0_step (l := [d, e, f]) (c := d) (by omega) (by simp) (by simp) rfl hd.1 hd.2 (by omega) (by omega) (fun hk => ?_) (fun hk => if_neg (fun h => hk h.1))
      have hk' := hk
      unfold cont at hk'
      refine l0_step (l := [d, e, f]) (c := e) (by omega) (by simp) (by simp) rfl he.1 he.2 (by omega) (by omega) (fun hk2 => ?_) (fun hk2 => if_neg (fun h => hk2 h.2.1))
      have hk2' := hk2
      unfold cont at hk2'
      refine l0_step (l := [d, e, f]) (c := f) (by omega) (by simp) (by simp) rfl hf.1 hf.2 (by omega) (by omega) (fun hk3 => ?_) (fun hk3 => if_neg (fun h => hk3 h.2.2))
      rw [if_pos ⟨hk, hk2, hk3⟩, show (c - 240) * 262144 + (d - 128) * 4096 + (e - 128) * 64 + (f - 128) = (((c - 240) * 64 + (d - 128)) * 64 + (e - 128)) * 64 + (f - 128) by omega]
      exact @l0_end 4 _ [d, e, f]
  simp only [if_neg c4]
  exact Evt.pos trivial (few _ _ _ rfl)

/-- utf.Next answers as the model. -/
theorem next_ev (l : List Int) (hb : Bytes l) (hl : (l.length : Int) ≤ 140737488355328) (i : Int) : Evt (fun k => utf_Next.f k l i) (nx l i) := by
  by_cases h0 : i < 0
  · rw [nx_out (Or.inl h0)]
    simp only [utf_Next.f]
    refine Evt.pos h0 (Evt.succ ?_)
    simp only [utf_Next.j0, if_true]
    exact Evt.const _
  by_cases h1 : (l.length : Int) ≤ i
  · rw [nx_out (Or.inr h1)]
    simp only [utf_Next.f]
    refine Evt.neg h0 ?_
    rw [decide_eq_true (by omega)]
    refine Evt.succ ?_
    simp only [utf_Next.j0, if_true]
    exact Evt.const _
  obtain ⟨a, c, t, rfl, rfl⟩ := split_at (l := l) (i := i) (by omega) (by omega)
  rw [nx_at]
  exact next_at a c t hb.right hl

/-- utf.Valid, from a place on where code points stand, and behind them nothing, or what is wrong. -/
theorem valid_from (t : List Int) (ht : (dec t).2.2 = false) (hbt : Bytes t) (rs : List Int) (hrs : ∀ r ∈ rs, isCp r) : ∀ a : List Int, ((a ++ (encAll rs ++ t)).length : Int) ≤ 140737488355328 → Bytes a →
    Evt (fun k => utf_Valid.l0 k (a ++ (encAll rs ++ t)) (a.length : Int)) (((a ++ encAll rs).length : Int), decide (t = [])) := by
  induction rs with
  | nil =>
    intro a hl ha
    refine Evt.succ ?_
    simp only [utf_Valid.l0, encAll_nil, List.nil_append, List.append_nil] at hl ⊢
    rcases t with _ | ⟨c, t⟩
    · refine Evt.neg (by simp) ?_
      exact Evt.const _
    · have hn := next_ev (a ++ c :: t) (ha.append hbt) hl (a.length : Int)
      rw [nx_at, dec_false (by simp) ht] at hn
      refine Evt.pos (by simp; omega) (Evt.bind hn ?_)
      simp only [bad, Bool.false_eq_true, if_false]
      exact Evt.const _
  | cons r rs ih =>
    intro a hl ha
    have hr := hrs r (by simp)
    have hrs' : ∀ x ∈ rs, isCp x := fun x hx => hrs x (by simp [hx])
    have h1 := @enc_size r
    have h2 := size_range r
    have hn := next_ev (a ++ (encAll (r :: rs) ++ t)) (ha.append ((encAll_bytes hrs).append hbt)) hl (a.length : Int)
    rw [nx_at, encAll_cons, List.append_assoc, dec_enc hr] at hn
    refine Evt.succ ?_
    rw [encAll_cons, List.append_assoc] at hl ⊢
    simp only [utf_Valid.l0]
    have hl' : ((a.length : Int) + ((enc r).length + ((encAll rs).length + t.length : Nat) : Nat)) ≤ 140737488355328 := by
      simp only [List.length_append] at hl
      omega
    refine Evt.pos (by simp only [List.length_append]; omega) (Evt.bind hn ?_)
    simp only [if_true]
    rw [wrap64_in (by omega) (by omega), show (a.length : Int) + size r = ((a ++ enc r).length : Int) by rw [← h1]; simp, ← List.append_assoc a, show a ++ (enc r ++ encAll rs) = (a ++ enc r) ++ encAll rs by rw [List.append_assoc]]
    exact ih hrs' (a ++ enc r) (by rw [List.append_assoc]; exact hl) (ha.append (enc_bytes hr))
theorem valid_ev {rs t : List Int} (hrs : ∀ r ∈ rs, isCp r) (ht : (dec t).2.2 = false) (hbt : Bytes t) (hl : ((encAll rs ++ t).length : Int) ≤ 140737488355328) :
    Evt (fun k => utf_Valid.f k (encAll rs ++ t)) (((encAll rs).length : Int), decide (t = [])) := by
  simp only [utf_Valid.f]
  exact valid_from t ht hbt rs hrs [] hl Bytes.nil

end Go.Proofs.Ytjfimecfhmchhaa.UtfEq
