/- Code points are read as they were written, one behind the other, and no beginning of one is UTF-8: for any list of whole numbers and any place of a cut (lists of more than 60 numbers, those with a number that is no code point, and a cut below 0 are let through). -/
import Derived.Test.YtjfimecfhmchhaaQx6
import Derived.Test.YtjfimecfhmchhaaUtfAlive
namespace Go.Proofs.Ytjfimecfhmchhaa.Pure
open Go.RowKit Go.Proofs.YtjfimecfhmchhaaW.PrintWords Go.Proofs.Ytjfimecfhmchhaa.Base Go.Proofs.Ytjfimecfhmchhaa.Utf Go.Proofs.Ytjfimecfhmchhaa.UtfEq Go.Proofs.Ytjfimecfhmchhaa.Q

theorem back_true (l : List Int) (cut : Int) (live : Bool) (hl : live = true) : Evt (fun k => abridgerlaw1_UtfBack.j0 k l cut live true) true := by
  subst hl
  refine Evt.succ ?_
  simp only [abridgerlaw1_UtfBack.j0, if_true]
  exact Evt.const _
theorem two_true (l : List Int) (cut : Int) (b : List Int) (i : Int) : Evt (fun k => abridgerlaw1_UtfBack.j2 k l cut b i true) true := by
  refine Evt.succ ?_
  simp only [abridgerlaw1_UtfBack.j2, if_true]
  exact Evt.const _
/-- The second loop: each code point is read again, from where it stands. -/
theorem back_l1 (ls rs : List Int) (hrs : ∀ r ∈ rs, isCp r) : ∀ (pre : List Int), ls = pre ++ rs → (∀ r ∈ pre, isCp r) → ls.length ≤ 60 →
    Evt (fun k => abridgerlaw1_UtfBack.l1 k ls (encAll ls) ((encAll pre).length : Int) (pre.length : Int)) true := by
  have small : ∀ l : List Int, (encAll l).length ≤ 4 * l.length := by
    intro l
    induction l with
    | nil => simp [encAll_nil]
    | cons r l ih =>
      rw [encAll_cons, List.length_append, List.length_cons]
      have := @enc_len r
      omega
  induction rs with
  | nil =>
    intro pre hp hpre hl
    rw [List.append_nil] at hp
    subst hp
    have hv := valid_ev (rs := ls) (t := []) hpre rfl Bytes.nil (by rw [List.append_nil]; have := small ls; omega)
    rw [List.append_nil] at hv
    refine Evt.succ ?_
    simp only [abridgerlaw1_UtfBack.l1]
    refine Evt.neg (by omega) (Evt.bind hv (Evt.pos (by simp) (Evt.pos (by simp) (Evt.of (by simp)))))
  | cons r rs ih =>
    intro pre hp hpre hl
    have hr := hrs r (by simp)
    have hs := size_range r
    have he := @enc_size r
    have hb : Bytes (encAll ls) := encAll_bytes (by rw [hp]; intro x hx; exact (List.mem_append.1 hx).elim (hpre x) (hrs x))
    have hn := next_ev (encAll ls) hb (by have := small ls; omega) ((encAll pre).length : Int)
    have e1 : encAll ls = encAll pre ++ (enc r ++ encAll rs) := by rw [hp, encAll_append, encAll_cons]
    have hsm := small ls
    have e2 := congrArg List.length e1
    simp only [List.length_append] at e2
    conv at hn => rhs; rw [e1]
    rw [nx_at, dec_enc hr] at hn
    have hrd : rd ls (pre.length : Int) = r := by rw [hp]; exact rd_append pre r rs
    have hlen := congrArg List.length hp
    simp only [List.length_append, List.length_cons] at hlen
    refine Evt.succ ?_
    simp only [abridgerlaw1_UtfBack.l1]
    refine Evt.pos (by omega) (Evt.bind hn (Evt.pos (by simp) (Evt.pos (by omega) (Evt.pos hrd.symm (Evt.neg (by simp only; omega) ?_)))))
    simp only
    rw [wrap64_in (by omega) (by omega), wrap64_in (by omega) (by omega)]
    have := ih (fun x hx => hrs x (by simp [hx])) (pre ++ [r]) (by rw [hp]; simp) (by intro x hx; rcases List.mem_append.1 hx with h | h; · exact hpre x h
                                                                                      · simp at h; subst h; exact hr) hl
    rw [encAll_append, List.length_append, List.length_append, List.length_singleton, show encAll [r] = enc r from by rw [encAll_cons, encAll_nil, List.append_nil]] at this
    rw [← he, show ((encAll pre).length : Int) + ((enc r).length : Int) = (((encAll pre).length + (enc r).length : Nat) : Int) by omega, show (pre.length : Int) + 1 = ((pre.length + 1 : Nat) : Int) by omega]
    exact this
/-- A beginning of what was written for a code point: UTF-8 just if it is empty. -/
theorem cut_valid {r : Int} (hr : isCp r) {j : Nat} (hj : j < (enc r).length) : Evt (fun k => utf_Valid.f k ((enc r).take j)) (0, decide (j = 0)) := by
  have hb := (enc_bytes hr).take j
  have := valid_ev (rs := []) (t := (enc r).take j) (fun _ h => by simp at h) (dec_part hr hj) hb (by have := @enc_len r; simp [encAll_nil]; omega)
  rw [encAll_nil, List.nil_append] at this
  have e : ((enc r).take j = []) = (j = 0) := by
    rw [List.take_eq_nil_iff]
    apply propext
    constructor
    · rintro (h | h)
      · exact h
      · rw [h] at hj; simp at hj
    · exact Or.inl
  simp only [e] at this
  exact this
theorem tmod_in {x n : Int} (h0 : 0 ≤ x) (hn : 0 < n) : Int.tmod x n = x % n ∧ 0 ≤ x % n ∧ x % n < n := by
  refine ⟨?_, Int.emod_nonneg x (by omega), Int.emod_lt_of_pos x hn⟩
  rw [Int.tmod_eq_emod_of_nonneg h0]

/-- The first loop: each code point is written behind the others, and none of its beginnings is UTF-8. -/
theorem back_l0 (cut : Int) (hc0 : 0 ≤ cut) (ls rs : List Int) : ∀ (pre : List Int), ls = pre ++ rs → (∀ r ∈ pre, isCp r) → ls.length ≤ 60 →
    Evt (fun k => abridgerlaw1_UtfBack.l0 k ls cut (encAll pre) (pre.length : Int)) true := by
  have small : ∀ l : List Int, (encAll l).length ≤ 4 * l.length := by
    intro l
    induction l with
    | nil => simp [encAll_nil]
    | cons r l ih =>
      rw [encAll_cons, List.length_append, List.length_cons]
      have := @enc_len r
      omega
  induction rs with
  | nil =>
    intro pre hp hpre hl
    rw [List.append_nil] at hp
    subst hp
    refine Evt.succ ?_
    simp only [abridgerlaw1_UtfBack.l0]
    refine Evt.neg (by omega) ?_
    exact back_l1 ls ls hpre [] rfl (fun _ h => by simp at h) hl
  | cons r rs ih =>
    intro pre hp hpre hl
    have hrd : rd ls (pre.length : Int) = r := by rw [hp]; exact rd_append pre r rs
    have hlen := congrArg List.length hp
    simp only [List.length_append, List.length_cons] at hlen
    refine Evt.succ ?_
    simp only [abridgerlaw1_UtfBack.l0, hrd]
    refine Evt.pos (by omega) (Evt.pos (by omega) ?_)
    by_cases hr : isCp r
    · have hr' := hr
      unfold isCp at hr'
      have main : Evt (fun k => abridgerlaw1_UtfBack.j2 k ls cut (encAll pre) (pre.length : Int) false) true := by
        have hput := put_ev [] r (by decide)
        simp only [List.nil_append, put, fix_of hr] at hput
        have he := @enc_size r
        have hsm := small pre
        have hnext : ∀ n : Int, size r = n → Evt (fun k => if (encAll pre).length + (enc r).length < 140737488355328 then abridgerlaw1_UtfBack.l0 k ls cut (encAll pre ++ enc r) (wrap64 ((pre.length : Int) + 1)) else none) true := by
          intro n hn
          have := @enc_len r
          refine Evt.pos (by omega) ?_
          rw [wrap64_in (by omega) (by omega)]
          have := ih (pre ++ [r]) (by rw [hp]; simp) (by intro x hx; rcases List.mem_append.1 hx with h | h; · exact hpre x h
                                                         · simp at h; subst h; exact hr) hl
          rw [encAll_append, List.length_append, List.length_singleton, show encAll [r] = enc r from by rw [encAll_cons, encAll_nil, List.append_nil]] at this
          rw [show (pre.length : Int) + 1 = ((pre.length + 1 : Nat) : Int) by omega]
          exact this
        -- one way for each number of bytes
        have way : ∀ n : Int, 1 < n → n ≤ 4 → size r = n → Evt (fun k => if wrap64 (((enc r).length : Int) + 1) = 0 then none else if 0 ≤ Int.tmod (Int.tmod cut n) (wrap64 (((enc r).length : Int) + 1)) then if Int.tmod (Int.tmod cut n) (wrap64 (((enc r).length : Int) + 1)) ≤ ((enc r).length : Int) then
            (utf_Valid.f k ((enc r).take (Int.tmod (Int.tmod cut n) (wrap64 (((enc r).length : Int) + 1))).toNat)).bind fun bt228 => if ((enc r).length : Int) = n then if (bt228.2 != (Int.tmod cut n == 0)) = true then some false else if (encAll pre).length + (enc r).length < 140737488355328 then abridgerlaw1_UtfBack.l0 k ls cut (encAll pre ++ enc r) (wrap64 ((pre.length : Int) + 1)) else none else some false else none else none) true := by
          intro n hn1 hn4 hsz
          obtain ⟨t1, t2, t3⟩ := tmod_in hc0 (show 0 < n by omega)
          rw [wrap64_in (by omega) (by omega), t1]
          obtain ⟨u1, u2, u3⟩ := tmod_in t2 (show 0 < ((enc r).length : Int) + 1 by omega)
          rw [u1, Int.emod_eq_of_lt (a := cut % n) t2 (by omega)]
          refine Evt.neg (by omega) (Evt.pos t2 (Evt.pos (by omega) (Evt.bind (cut_valid hr (by omega)) (Evt.pos (by omega) (Evt.neg ?_ (hnext n hsz))))))
          have e : decide ((cut % n).toNat = 0) = (cut % n == 0) := by
            rw [Bool.eq_iff_iff, decide_eq_true_iff, beq_iff_eq]
            omega
          rw [e]
          cases (cut % n == 0) <;> decide
        refine Evt.succ ?_
        simp only [abridgerlaw1_UtfBack.j2, Bool.false_eq_true, if_false, hrd]
        refine Evt.pos (by omega) (Evt.pos (by omega) (Evt.bind hput ?_))
        by_cases h4 : r ≥ 65536
        · refine Evt.pos h4 (way 4 (by omega) (by omega) ?_)
          unfold size
          rw [if_neg (by omega), if_neg (by omega), if_neg (by omega)]
        refine Evt.neg h4 ?_
        by_cases h3 : r ≥ 2048
        · refine Evt.pos h3 (way 3 (by omega) (by omega) ?_)
          unfold size
          rw [if_neg (by omega), if_neg (by omega), if_pos (by omega)]
        refine Evt.neg h3 ?_
        by_cases h2 : r ≥ 128
        · refine Evt.pos h2 (way 2 (by omega) (by omega) ?_)
          unfold size
          rw [if_neg (by omega), if_pos (by omega)]
        refine Evt.neg h2 ?_
        have hsz : size r = 1 := by unfold size; rw [if_pos (by omega)]
        have hcv := cut_valid hr (j := 0) (by omega)
        rw [wrap64_in (n := ((enc r).length : Int) + 1) (by omega) (by omega)]
        refine Evt.neg (by omega) (Evt.pos (by omega) (Evt.bind hcv (Evt.pos (by omega) ?_)))
        simp only [decide_true]
        exact Evt.pos (by simp) (hnext 1 hsz)
      refine Evt.neg (by omega) (Evt.neg (by omega) ?_)
      by_cases h : r ≥ 55296
      · refine Evt.pos h ?_
        rw [decide_eq_false (by omega)]
        exact main
      · exact Evt.neg h main
    · have stop := two_true ls cut (encAll pre) (pre.length : Int)
      unfold isCp at hr
      by_cases h1 : r < 0
      · exact Evt.pos h1 stop
      refine Evt.neg h1 ?_
      by_cases h2 : r > 1114111
      · exact Evt.pos h2 stop
      refine Evt.neg h2 (Evt.pos (by omega) ?_)
      rw [decide_eq_true (by omega)]
      exact stop

theorem UtfBack : abridgerlaw1_UtfBack.Pure := by
  intro l cut _ _ _ _
  apply Evt.ex
  simp only [abridgerlaw1_UtfBack.f]
  refine Evt.bind alive_ev (Evt.pos rfl ?_)
  by_cases h1 : (l.length : Int) > 60
  · exact Evt.pos h1 (back_true _ _ _ rfl)
  refine Evt.neg h1 ?_
  by_cases h2 : cut < 0
  · rw [decide_eq_true h2]
    exact back_true _ _ _ rfl
  · rw [decide_eq_false h2]
    refine Evt.succ ?_
    simp only [abridgerlaw1_UtfBack.j0, Bool.false_eq_true, if_false]
    exact back_l0 cut (by omega) l l [] rfl (fun _ h => by simp at h) (by omega)

end Go.Proofs.Ytjfimecfhmchhaa.Pure
