/- Of two code points the lesser one is written as the lesser text, and none is the beginning of another one: for any two whole numbers; those that are no code points are let through. -/
import Derived.Test.YtjfimecfhmchhaaQx3
import Derived.Test.YtjfimecfhmchhaaUtfAlive
namespace Go.Proofs.Ytjfimecfhmchhaa.Pure
open Go.RowKit Go.Proofs.YtjfimecfhmchhaaW.PrintWords Go.Proofs.Ytjfimecfhmchhaa.Base Go.Proofs.Ytjfimecfhmchhaa.Utf Go.Proofs.Ytjfimecfhmchhaa.UtfEq Go.Proofs.Ytjfimecfhmchhaa.Q

theorem lex_enc {a b : Int} (ha : isCp a) (hb : isCp b) (hab : a < b) : lexLt (enc a) (enc b) = true := by
  unfold isCp at ha hb
  unfold enc
  (repeat' split) <;> simp [lexLt] <;> omega
theorem lex_asymm (a b : List Int) (h : lexLt a b = true) : lexLt b a = false := by
  induction a generalizing b with
  | nil => cases b <;> simp_all [lexLt]
  | cons x a ih =>
    cases b with
    | nil => simp [lexLt] at h
    | cons y b =>
      simp only [lexLt, Bool.or_eq_true, decide_eq_true_eq, Bool.and_eq_true, Bool.or_eq_false_iff, decide_eq_false_iff_not, Bool.and_eq_false_imp] at h ⊢
      rcases h with h | ⟨rfl, h⟩
      · exact ⟨by omega, fun h2 => by omega⟩
      · exact ⟨by omega, fun _ => ih b h⟩
theorem lex_irrefl (a : List Int) : lexLt a a = false := by
  induction a with
  | nil => rfl
  | cons x a ih => simp [lexLt, ih]
theorem lex_iff {a b : Int} (ha : isCp a) (hb : isCp b) : lexLt (enc a) (enc b) = decide (a < b) := by
  by_cases h : a < b
  · rw [lex_enc ha hb h, decide_eq_true h]
  · rw [decide_eq_false h]
    by_cases h2 : b < a
    · exact lex_asymm _ _ (lex_enc hb ha h2)
    · obtain rfl : a = b := by omega
      exact lex_irrefl _

theorem order_j0 {a b : Int} (ha : isCp a) (hb : isCp b) (live : Bool) : Evt (fun k => abridgerlaw1_UtfOrder.j0 k a b live false) true := by
  have pa := put_ev [] a (by decide)
  have pb := put_ev [] b (by decide)
  have ba := enc_bytes ha
  have bb := enc_bytes hb
  have sa := @enc_size a
  have sb := @enc_size b
  have ra := size_range a
  have rb := size_range b
  simp only [List.nil_append, put, fix_of ha] at pa
  simp only [List.nil_append, put, fix_of hb] at pb
  refine Evt.succ ?_
  simp only [abridgerlaw1_UtfOrder.j0, Bool.false_eq_true, if_false]
  refine Evt.bind pa (Evt.bind pb ?_)
  simp only [str_toList, bytesLess_u8s ba bb, lex_iff ha hb, str_size, str_extract]
  have e1 : (decide (a < b) != decide (a < b)) = false := by cases decide (a < b) <;> rfl
  have e2 : (Lib.bytesOf (enc a) == Lib.bytesOf (enc b)) = (a == b) := by
    rw [Bool.eq_iff_iff, beq_iff_eq, beq_iff_eq]
    exact ⟨fun h => enc_inj ha hb (u8s_inj ba bb h), fun h => by rw [h]⟩
  have e3 : ((a == b) != (Lib.bytesOf (enc a) == Lib.bytesOf (enc b))) = false := by rw [e2]; cases (a == b) <;> rfl
  simp only [e1, e3, Bool.false_eq_true, if_false]
  refine Evt.neg (by omega) (Evt.neg (by omega) ?_)
  by_cases hab : a = b
  · exact Evt.pos hab (Evt.const _)
  refine Evt.neg hab ?_
  by_cases hlen : ((enc a).length : Int) > ((enc b).length : Int)
  · exact Evt.pos hlen (Evt.const _)
  refine Evt.neg hlen (Evt.pos (by omega) (Evt.pos (by omega) ?_))
  refine Evt.of ?_
  congr 1
  rw [bne_iff_ne, Int.toNat_natCast]
  intro h
  have h2 := u8s_inj (bb.take _) ba h
  have h3 := dec_enc ha ((enc b).drop (enc a).length)
  have h5 : enc a ++ (enc b).drop (enc a).length = enc b := by
    conv => lhs; lhs; rw [← h2]
    exact List.take_append_drop _ _
  rw [h5] at h3
  have h4 := dec_enc hb []
  rw [List.append_nil, h3] at h4
  simp only [Prod.mk.injEq] at h4
  exact hab h4.1
theorem order_true (a b : Int) (live : Bool) (hl : live = true) : Evt (fun k => abridgerlaw1_UtfOrder.j0 k a b live true) true := by
  subst hl
  refine Evt.succ ?_
  simp only [abridgerlaw1_UtfOrder.j0, if_true]
  exact Evt.const _

theorem UtfOrder : abridgerlaw1_UtfOrder.Pure := by
  intro a b _ _
  apply Evt.ex
  simp only [abridgerlaw1_UtfOrder.f]
  refine Evt.bind alive_ev (Evt.pos rfl ?_)
  by_cases ha : isCp a
  · by_cases hb : isCp b
    · have key := order_j0 ha hb true
      have ha' := ha
      have hb' := hb
      unfold isCp at ha' hb'
      refine Evt.neg (by omega) (Evt.neg (by omega) ?_)
      have fin : Evt (fun k => if b < 0 then abridgerlaw1_UtfOrder.j0 k a b true true else if b > 1114111 then abridgerlaw1_UtfOrder.j0 k a b true true else if b ≥ 55296 then abridgerlaw1_UtfOrder.j0 k a b true (decide (b < 57344)) else abridgerlaw1_UtfOrder.j0 k a b true false) true := by
        refine Evt.neg (by omega) (Evt.neg (by omega) ?_)
        by_cases h2 : b ≥ 55296
        · refine Evt.pos h2 ?_
          rw [decide_eq_false (by omega)]
          exact key
        · exact Evt.neg h2 key
      by_cases h1 : a ≥ 55296
      · exact Evt.pos h1 (Evt.neg (by omega) fin)
      · exact Evt.neg h1 fin
    · have fin : Evt (fun k => if b < 0 then abridgerlaw1_UtfOrder.j0 k a b true true else if b > 1114111 then abridgerlaw1_UtfOrder.j0 k a b true true else if b ≥ 55296 then abridgerlaw1_UtfOrder.j0 k a b true (decide (b < 57344)) else abridgerlaw1_UtfOrder.j0 k a b true false) true := by
        have key := order_true a b true rfl
        unfold isCp at hb
        by_cases h1 : b < 0
        · exact Evt.pos h1 key
        refine Evt.neg h1 ?_
        by_cases h2 : b > 1114111
        · exact Evt.pos h2 key
        refine Evt.neg h2 (Evt.pos (by omega) ?_)
        rw [decide_eq_true (by omega)]
        exact key
      have key := order_true a b true rfl
      by_cases h1 : a < 0
      · exact Evt.pos h1 key
      refine Evt.neg h1 ?_
      by_cases h2 : a > 1114111
      · exact Evt.pos h2 key
      refine Evt.neg h2 ?_
      by_cases h3 : a ≥ 55296
      · refine Evt.pos h3 ?_
        by_cases h4 : a < 57344
        · exact Evt.pos h4 key
        · exact Evt.neg h4 fin
      · exact Evt.neg h3 fin
  · have key := order_true a b true rfl
    unfold isCp at ha
    by_cases h1 : a < 0
    · exact Evt.pos h1 key
    refine Evt.neg h1 ?_
    by_cases h2 : a > 1114111
    · exact Evt.pos h2 key
    exact Evt.neg h2 (Evt.pos (by omega) (Evt.pos (by omega) key))

end Go.Proofs.Ytjfimecfhmchhaa.Pure
