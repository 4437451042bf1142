/- Operations that keep apart may change places; so a region comes to the same in every order that its edges allow. -/
import Derived.Test.YtlhhibhcoefolaaEngDraw2
namespace Go.Proofs.Ytlhhibhcoefolaa.Eng
open Go
set_option linter.unusedVariables false
set_option linter.unusedSimpArgs false
def disj (a b : List Nat) : Bool := a.all fun i => !b.contains i
theorem disj_spec {a b : List Nat} (h : disj a b = true) : ∀ i ∈ a, i ∉ b := fun i hi hb => by
  have := List.all_eq_true.1 h i hi
  simp [hb] at this
def good (ops : Array Oper) (oy ox : Oper) (iy ix : Info) : Bool := oy.apart ops ox && disj iy.w (ix.r ++ ix.w ++ ix.v) && disj ix.w (iy.r ++ iy.v)
def dstL (o : Oper) (c : AV) : List (Nat × AV) := match o.dst with | some d => [(d, c)] | none => []
def ext (t : St) (o : Oper) (U : List Nat) (c : AV) (H : Hp) : St := { n := t.n, used := U ++ t.used, sl := dstL o c ++ t.sl, hp := H ++ t.hp }
theorem get_app {H hp : Hp} {i : Nat} (h : i ∉ keys H) : Hp.get (H ++ hp) i = hp.get i := by
  induction H with
  | nil => rfl
  | cons p H ih =>
    obtain ⟨a, x⟩ := p
    simp only [keys, List.map_cons, List.mem_cons, not_or] at h
    rw [List.cons_append, Hp.get_cons, if_neg h.1]
    exact ih h.2
theorem get_app_in {H hp hp' : Hp} {i : Nat} (h : i ∈ keys H) : Hp.get (H ++ hp) i = Hp.get (H ++ hp') i := by
  induction H with
  | nil => cases h
  | cons p H ih =>
    obtain ⟨a, x⟩ := p
    rw [List.cons_append, List.cons_append, Hp.get_cons, Hp.get_cons]
    by_cases e : i = a
    · rw [if_pos e, if_pos e]
    · rw [if_neg e, if_neg e]
      refine ih ?_
      simp only [keys, List.map_cons, List.mem_cons] at h
      exact h.resolve_left e
section
variable {P : Program} {Γ : Gam} {ops : Array Oper} {o : Oper} {s t : St}
theorem looks_operand {x : Operand} (hx : x ∈ o.op.operands) (h : ∀ d ∈ o.looksAt ops, s.sl.lookup d = t.sl.lookup d) : s.look x = t.look x := by
  cases x with
  | tmp d =>
    show (s.sl.lookup d).getD .bad = (t.sl.lookup d).getD .bad
    rw [h d (List.mem_append_left _ (List.mem_filterMap.2 ⟨.tmp d, by simpa using hx, rfl⟩))]
  | _ => rfl
theorem opF_move (hL : Gloc Γ) {p : Prop} {i : Info} {s1 : St} (h : opF P Γ ops o s = some (p, i, s1)) : ∃ U c H, s1 = ext s o U c H ∧ (∀ k ∈ keys H, k ∈ i.w) ∧ (∀ k ∈ U, k ∈ i.w ∧ k ∉ s.used ∧ o.dst = some k) ∧
    ∀ t : St, t.n = s.n → (∀ d ∈ o.looksAt ops, s.sl.lookup d = t.sl.lookup d) → Agree i.r s.hp.get t.hp.get → (∀ k ∈ U, k ∉ t.used) → (∀ k ∈ i.v, k ∈ s.used → k ∈ t.used) → opF P Γ ops o t = some (p, i, ext t o U c H) := by
  unfold opF at h
  split at h
  · rename_i hg
    split at h
    case h_2 => cases h
    rename_i e he
    split at h
    case isFalse => cases h
    rename_i hok
    cases h
    have hok' := hok
    simp only [St.okB, Bool.and_eq_true] at hok'
    obtain ⟨⟨k1, k2⟩, k3⟩ := hok'
    have hnew : e.new = true → o.dst = some (o.dst.getD 0) ∧ o.dst.getD 0 ∉ s.used := fun hn => by
      refine ⟨?_, fun hm => ?_⟩
      · cases hd : o.dst with
        | none => rw [hd] at k1; simp [hn] at k1
        | some d => rfl
      · simp [hn, hm] at k2
    have hupd : ∀ t : St, t.upd o e = ext t o (if e.new then [o.dst.getD 0] else []) e.val e.up := fun t => by
      simp only [St.upd, ext, dstL]
      congr 1
      · cases e.new <;> rfl
      · cases o.dst <;> rfl
    refine ⟨_, _, _, hupd s, fun k hk => List.mem_append.2 (.inl hk), fun k hk => ?_, fun t h1 h2 h3 h4 h5 => ?_⟩
    · cases hn : e.new with
      | false => rw [hn] at hk; cases hk
      | true =>
        rw [hn] at hk
        obtain ⟨q1, q2⟩ := hnew hn
        simp only [if_true, List.mem_singleton] at hk
        subst hk
        exact ⟨by simp [hn], q2, q1⟩
    · obtain ⟨q1, q2⟩ := effOf_loc (P := P) hL (t := t) o.op (o.dst.getD 0) (fun x hx => looks_operand hx h2) h3
      have hok2 : t.okB o e = true := by
        simp only [St.okB, Bool.and_eq_true]
        refine ⟨⟨by rw [h1]; exact k1, ?_⟩, ?_⟩
        · cases hn : e.new with
          | false => rfl
          | true =>
            have := h4 (o.dst.getD 0) (by simp [hn])
            simpa using this
        · refine subL_congr (fun j hj hu => ?_) k3
          rw [hupd] at hu ⊢
          simp only [ext, List.mem_append] at hu ⊢
          exact hu.imp id (h5 j hj)
      unfold opF
      simp only [hg]
      rw [← q1, he]
      simp only [hok2, if_true, ← q2, hupd t]
  · rename_i j want hg
    split at h
    case h_2 => cases h
    rename_i b d hb hd
    have hgd : ∀ t : St, (∀ d ∈ o.looksAt ops, s.sl.lookup d = t.sl.lookup d) → s.guard ops j = t.guard ops j := fun t h2 => guard_same fun d hd => h2 d (by
      refine List.mem_append_right _ ?_
      rw [hg]
      simp [hd])
    have hat : ∀ t : St, (∀ d ∈ o.looksAt ops, s.sl.lookup d = t.sl.lookup d) → ∀ d ∈ o.looksAt ops, (s.at (gOf b want)).sl.lookup d = (t.at (gOf b want)).sl.lookup d := fun t h2 d hd => by
      simp only [St.at, lookup_map, h2 d hd]
    have hloc : ∀ t : St, (∀ d ∈ o.looksAt ops, s.sl.lookup d = t.sl.lookup d) → Agree (opIds (s.at (gOf b want)).look o.op) s.hp.get t.hp.get → _ := fun t h2 h3 => effOf_loc (P := P) hL (s := s.at (gOf b want)) (t := t.at (gOf b want)) o.op d (fun x hx => looks_operand hx (hat t h2)) h3
    split at h
    · rename_i e he
      split at h
      · rename_i hc
        cases h
        refine ⟨[], .gd (gOf b want) e.val, [], by simp [ext, dstL, hd], fun k hk => hk, (fun k hk => nomatch hk), fun t h1 h2 h3 _ h5 => ?_⟩
        obtain ⟨q1, q2⟩ := hloc t h2 h3
        have hc' : e.none? = true ∧ d < t.n ∧ subL e.val.ids t.used = true := ⟨hc.1, by rw [h1]; exact hc.2.1, subL_congr (fun j hj hu => h5 j hj hu) hc.2.2⟩
        unfold opF
        simp only [hg]
        rw [← hgd t h2, hb, hd]
        simp only
        rw [← q1, he]
        simp only [if_pos hc', ← q2]
        simp [ext, dstL, hd]
      · split at h
        · rename_i hc
          cases h
          obtain ⟨c1, c2, hok⟩ := hc
          have hok' := hok
          simp only [St.okB, Bool.and_eq_true] at hok'
          obtain ⟨⟨k1, k2⟩, k3⟩ := hok'
          have hnew : e.new = true → o.dst = some (o.dst.getD 0) ∧ o.dst.getD 0 ∉ s.used := fun hn => by
            refine ⟨by rw [hd]; rfl, fun hm => ?_⟩
            simp [hn, hm] at k2
          have hupd : ∀ t : St, t.upd o e = ext t o (if e.new then [o.dst.getD 0] else []) e.val e.up := fun t => by
            simp only [St.upd, ext, dstL]
            congr 1
            · cases e.new <;> rfl
            · cases o.dst <;> rfl
          refine ⟨_, _, _, hupd s, fun k hk => List.mem_append.2 (.inl hk), fun k hk => ?_, fun t h1 h2 h3 h4 h5 => ?_⟩
          · cases hn : e.new with
            | false => rw [hn] at hk; cases hk
            | true =>
              rw [hn] at hk
              obtain ⟨q1, q2⟩ := hnew hn
              simp only [if_true, List.mem_singleton] at hk
              subst hk
              exact ⟨by simp [hn], q2, q1⟩
          · obtain ⟨q1, q2⟩ := hloc t h2 h3
            have hok2 : t.okB o e = true := by
              simp only [St.okB, Bool.and_eq_true]
              refine ⟨⟨by rw [h1]; exact k1, ?_⟩, ?_⟩
              · cases hn : e.new with
                | false => rfl
                | true =>
                  have := h4 (o.dst.getD 0) (by simp [hn])
                  simpa using this
              · refine subL_congr (fun j hj hu => ?_) k3
                rw [hupd] at hu ⊢
                simp only [ext, List.mem_append] at hu ⊢
                exact hu.imp id (h5 j hj)
            unfold opF
            simp only [hg]
            rw [← hgd t h2, hb]
            have nA : ¬ (e.none? = true ∧ d < t.n ∧ subL e.val.ids t.used = true) := fun q => by rw [c1] at q; cases q.1
            rw [hd] at hupd ⊢
            simp only
            rw [← q1, he]
            simp only [if_neg nA, if_pos (show e.none? = false ∧ allB (gOf b want) = true ∧ t.okB o e = true from ⟨c1, c2, hok2⟩), ← q2, hupd t]
        · split at h
          · rename_i hc
            cases h
            refine ⟨[], .gd (gOf b want) .bad, [], by simp [ext, dstL, hd], fun k hk => hk, (fun k hk => nomatch hk), fun t h1 h2 h3 _ h5 => ?_⟩
            obtain ⟨q1, q2⟩ := hloc t h2 h3
            have nA : ¬ (e.none? = true ∧ d < t.n ∧ subL e.val.ids t.used = true) := fun q => by rw [hc.1] at q; cases q.1
            have nB : ¬ (e.none? = false ∧ allB (gOf b want) = true ∧ t.okB o e = true) := fun q => by rw [hc.2.1] at q; cases q.2.1
            unfold opF
            simp only [hg]
            rw [← hgd t h2, hb, hd]
            simp only
            rw [← q1, he]
            simp only [if_neg nA, if_neg nB, if_pos (show e.none? = false ∧ allB (gOf b want) = false ∧ d < t.n from ⟨hc.1, hc.2.1, by rw [h1]; exact hc.2.2⟩), ← q2]
            simp [ext, dstL, hd]
          · cases h
    · rename_i he
      split at h
      · rename_i hc
        cases h
        refine ⟨[], .gd (gOf b want) .bad, [], by simp [ext, dstL, hd], fun k hk => hk, (fun k hk => nomatch hk), fun t h1 h2 h3 _ h5 => ?_⟩
        obtain ⟨q1, q2⟩ := hloc t h2 h3
        unfold opF
        simp only [hg]
        rw [← hgd t h2, hb, hd]
        simp only
        rw [← q1, he]
        simp only [if_pos (show allB (gOf b want) = false ∧ d < t.n from ⟨hc.1, by rw [h1]; exact hc.2⟩), ← q2]
        simp [ext, dstL, hd]
      · cases h
theorem lookup_dstL {d : Nat} {c : AV} {l : List (Nat × AV)} (h : o.dst ≠ some d) : (dstL o c ++ l).lookup d = l.lookup d := by
  unfold dstL
  cases hd : o.dst with
  | none => rfl
  | some e =>
    simp only [List.cons_append, List.nil_append, lookup_cons]
    rw [if_neg (fun e0 => h (by rw [hd, e0]))]
theorem swap (hL : Gloc Γ) {oy ox : Oper} {p q : Prop} {iy ix : Info} {s1 s2 : St} (hy : opF P Γ ops oy s = some (p, iy, s1)) (hx : opF P Γ ops ox s1 = some (q, ix, s2)) (hg : good ops oy ox iy ix = true) :
    ∃ t1 t2, opF P Γ ops ox s = some (q, ix, t1) ∧ opF P Γ ops oy t1 = some (p, iy, t2) ∧ s2.eqv t2 := by
  simp only [good, Bool.and_eq_true] at hg
  obtain ⟨⟨g1, g2⟩, g3⟩ := hg
  have d2 := disj_spec g2
  have d3 := disj_spec g3
  obtain ⟨a1, a2, a3⟩ := Oper.apart_spec g1
  obtain ⟨Uy, cy, Hy, rfl, y1, y2, y3⟩ := opF_move hL hy
  obtain ⟨Ux, cx, Hx, rfl, x1, x2, x3⟩ := opF_move hL hx
  have hx' := x3 s rfl (fun d hd => lookup_dstL (fun e => a1 d e hd)) (fun k hk => get_app fun hk' => d2 k (y1 k hk') (by simp [hk])) (fun k hk hs => (x2 k hk).2.1 (List.mem_append.2 (.inr hs)))
    (fun k hk hs => by
      rcases List.mem_append.1 hs with h | h
      · exact absurd (by simp [hk]) (d2 k (y2 k h).1)
      · exact h)
  have hy' := y3 (ext s ox Ux cx Hx) rfl (fun d hd => (lookup_dstL (fun e => a3 d e hd)).symm) (fun k hk => (get_app fun hk' => d3 k (x1 k hk') (by simp [hk])).symm)
    (fun k hk hs => by
      rcases List.mem_append.1 hs with h | h
      · exact a2 k (y2 k hk).2.2 (x2 k h).2.2
      · exact (y2 k hk).2.1 h)
    (fun k _ hs => List.mem_append.2 (.inr hs))
  refine ⟨_, _, hx', hy', rfl, fun i => ?_, fun i => ?_, fun i => ?_⟩
  · simp only [ext, List.mem_append]
    constructor <;> intro h <;> rcases h with h | h | h <;> simp [h]
  · show (dstL ox cx ++ (dstL oy cy ++ s.sl)).lookup i = (dstL oy cy ++ (dstL ox cx ++ s.sl)).lookup i
    by_cases h1 : ox.dst = some i
    · have h2 : oy.dst ≠ some i := fun h => a2 i h h1
      rw [lookup_dstL h2]
      simp only [dstL, h1, List.cons_append, List.nil_append, lookup_cons, if_true]
    · rw [lookup_dstL h1]
      by_cases h2 : oy.dst = some i
      · simp only [dstL, h2, List.cons_append, List.nil_append, lookup_cons, if_true]
      · rw [lookup_dstL h2, lookup_dstL h2, lookup_dstL h1]
  · show Hp.get (Hx ++ (Hy ++ s.hp)) i = Hp.get (Hy ++ (Hx ++ s.hp)) i
    by_cases h1 : i ∈ keys Hx
    · have h2 : i ∉ keys Hy := fun h => d2 i (y1 i h) (by simp [x1 i h1])
      rw [get_app h2]
      exact get_app_in h1
    · rw [get_app h1]
      by_cases h2 : i ∈ keys Hy
      · exact get_app_in h2
      · rw [get_app h2, get_app h2, get_app h1]
/-- A run through some of the operations, in a given order. -/
def Tr (P : Program) (Γ : Gam) (ops : Array Oper) (I : Nat → Info) : List Nat → St → St → Prop
  | [], s, e => s.eqv e
  | i :: L, s, e => ∃ o p s1, ops[i]? = some o ∧ opF P Γ ops o s = some (p, I i, s1) ∧ p ∧ Tr P Γ ops I L s1 e
variable {I : Nat → Info}
theorem Tr.eqv : ∀ {L : List Nat} {s t e : St}, s.eqv t → Tr P Γ ops I L s e → Tr P Γ ops I L t e
  | [], s, t, e, h, k => h.symm.trans k
  | i :: L, s, t, e, h, ⟨o, p, s1, h1, h2, h3, h4⟩ => by
    obtain ⟨t1, h5, h6⟩ := opF_eqv h h2
    exact ⟨o, p, t1, h1, h5, h3, Tr.eqv h6 h4⟩
theorem Tr.front (hL : Gloc Γ) {i : Nat} {L2 : List Nat} : ∀ {L1 : List Nat} {s e : St}, (∀ y ∈ L1, ∀ oy oi, ops[y]? = some oy → ops[i]? = some oi → good ops oy oi (I y) (I i) = true) → Tr P Γ ops I (L1 ++ i :: L2) s e → Tr P Γ ops I (i :: (L1 ++ L2)) s e
  | [], _, _, _, h => h
  | y :: L1, s, e, hg, ⟨oy, p, s1, h1, h2, h3, h4⟩ => by
    obtain ⟨oi, q, s2, k1, k2, k3, k4⟩ := Tr.front hL (fun z hz => hg z (List.mem_cons_of_mem _ hz)) h4
    obtain ⟨t1, t2, m1, m2, m3⟩ := swap hL h2 k2 (hg y List.mem_cons_self oy oi h1 k1)
    exact ⟨oi, q, t1, k1, m1, k3, oy, p, t2, h1, m2, h3, k4.eqv m3⟩
/-- The one operation must wait for the other, by way of others or not. -/
inductive Reach (ops : Array Oper) : Nat → Nat → Prop where
  | dir {x : Nat} {ox : Oper} {ed : Edge} (h : ops[x]? = some ox) (he : ed ∈ ox.after) (hb : Region.binds .any ed = true) : Reach ops x ed.on
  | via {x y : Nat} {ox : Oper} {ed : Edge} (h : ops[x]? = some ox) (he : ed ∈ ox.after) (hb : Region.binds .any ed = true) (r : Reach ops ed.on y) : Reach ops x y
def mrg (a : List Nat) : List Nat → List Nat
  | [] => a
  | y :: l => mrg (if a.contains y then a else y :: a) l
theorem mem_mrg : ∀ {a l : List Nat} {y : Nat}, y ∈ mrg a l → y ∈ a ∨ y ∈ l
  | a, [], y, h => .inl h
  | a, z :: l, y, h => by
    rcases mem_mrg (l := l) h with h | h
    · split at h
      · exact .inl h
      · rcases List.mem_cons.1 h with rfl | h
        · exact .inr List.mem_cons_self
        · exact .inl h
    · exact .inr (List.mem_cons_of_mem _ h)
def cloE (c : List (List Nat)) : List Edge → List Nat → List Nat
  | [], acc => acc
  | e :: l, acc => cloE c l (if Region.binds .any e then mrg acc (e.on :: c.getD e.on []) else acc)
/-- Whom each of the first operations must wait for. -/
def clo : List Oper → List (List Nat) → List (List Nat)
  | [], c => c
  | o :: os, c => clo os (c ++ [cloE c o.after.toList []])
theorem mem_cloE {c : List (List Nat)} {y : Nat} : ∀ {l : List Edge} {acc : List Nat}, y ∈ cloE c l acc → y ∈ acc ∨ ∃ e ∈ l, Region.binds .any e = true ∧ (y = e.on ∨ y ∈ c.getD e.on [])
  | [], acc, h => .inl h
  | e :: l, acc, h => by
    rcases mem_cloE (l := l) h with h | ⟨e', h1, h2⟩
    · split at h
      · rename_i hb
        rcases mem_mrg h with h | h
        · exact .inl h
        · exact .inr ⟨e, List.mem_cons_self, hb, List.mem_cons.1 h⟩
      · exact .inl h
    · exact .inr ⟨e', List.mem_cons_of_mem _ h1, h2⟩
theorem clo_reach {ops : Array Oper} : ∀ (os pre : List Oper) (c : List (List Nat)), ops.toList = pre ++ os → c.length = pre.length → (∀ x y, y ∈ c.getD x [] → Reach ops x y) → ∀ x y, y ∈ (clo os c).getD x [] → Reach ops x y
  | [], pre, c, _, _, h, x, y, hy => h x y hy
  | o :: os, pre, c, ho, hl, h, x, y, hy => by
    refine clo_reach os (pre ++ [o]) (c ++ [cloE c o.after.toList []]) (by simp [ho]) (by simp [hl]) (fun x y hy => ?_) x y hy
    rw [List.getD_eq_getElem?_getD, List.getElem?_append] at hy
    split at hy
    · rw [← List.getD_eq_getElem?_getD] at hy
      exact h x y hy
    · rename_i hx
      by_cases e : x = c.length
      · subst e
        rw [Nat.sub_self] at hy
        have hox : ops[c.length]? = some o := by rw [← Array.getElem?_toList, ho, hl, List.getElem?_append_right (Nat.le_refl _)]; simp
        rcases mem_cloE hy with hy | ⟨ed, h1, h2, h3⟩
        · cases hy
        · rcases h3 with rfl | h3
          · exact .dir hox (by simpa using h1) h2
          · exact .via hox (by simpa using h1) h2 (h _ _ h3)
      · rw [List.getElem?_eq_none (by simp; omega)] at hy
        cases hy
/-- What has been listed has all it waits for listed. -/
def Cl (ops : Array Oper) (listed : Array Bool) : Prop := ∀ x ox, ops[x]? = some ox → listed.getD x false = true → ∀ ed ∈ ox.after, Region.binds .any ed = true → listed.getD ed.on false = true
theorem Reach.listed {ops : Array Oper} {listed : Array Bool} (hc : Cl ops listed) {x y : Nat} (r : Reach ops x y) : ∀ {ox : Oper}, ops[x]? = some ox → (∀ ed ∈ ox.after, Region.binds .any ed = true → listed.getD ed.on false = true) → listed.getD y false = true := by
  induction r with
  | dir h he hb =>
    intro ox h0 h1
    rw [h] at h0; cases h0
    exact h1 _ he hb
  | via h he hb r ih =>
    intro ox h0 h1
    rw [h] at h0; cases h0
    have h2 := h1 _ he hb
    cases r with
    | dir hz _ _ => exact ih hz (hc _ _ hz h2)
    | via hz _ _ _ => exact ih hz (hc _ _ hz h2)
def pairsOk (ops : Array Oper) (is : List Info) : Bool :=
  (List.range ops.size).all fun x => match ops[x]?, is[x]? with
    | some ox, some ix => (ox.after.all fun e => !Region.binds .any e || decide (e.on < x)) &&
      (List.range x).all fun y => (((clo ops.toList []).getD x []).contains y) || (match ops[y]?, is[y]? with | some oy, some iy => good ops oy ox iy ix | _, _ => false)
    | _, _ => false
theorem any_order (hG : Gok P Γ) (hL : Gloc Γ) {C : Ctx} {e : St} {K : St → Prop} {is : List Info} (hp : pairsOk ops is = true) (hI : ∀ i x, is[i]? = some x → I i = x) {Q : Exit → Act → World → Prop}
    (hQ : ∀ a w s m, Sat C m s a w → s.eqv e → Q .normal a w) : ∀ (fuel : Nat) (listed : Array Bool) (s : St) (m : Nat → Value) (a : Act) (w : World), listed.size = ops.size → Cl ops listed →
      ((List.range ops.size).filter fun i => !listed.getD i true).length ≤ fuel →
      Tr P Γ ops I ((List.range ops.size).filter fun i => !listed.getD i true) s e → Sat C m s a w → wpAny P .any ops Q fuel listed a w := by
  have spec := List.all_eq_true.1 hp
  have rdy : ∀ (listed : Array Bool) (i : Nat), i ∈ Region.ready .any ops listed ↔ i ∈ ((List.range ops.size).filter fun i => !listed.getD i true) ∧ ∃ o, ops[i]? = some o ∧ ∀ ed ∈ o.after, Region.binds .any ed = true → listed.getD ed.on false = true := fun listed i => by
    simp only [Region.ready, List.mem_filter, Bool.and_eq_true]
    constructor
    · rintro ⟨h1, h2, h3⟩
      refine ⟨⟨h1, h2⟩, ?_⟩
      cases ho : ops[i]? with
      | none => rw [ho] at h3; cases h3
      | some o =>
        rw [ho] at h3
        refine ⟨o, rfl, fun ed hed hb => ?_⟩
        have h3' : (o.after.all fun e => !Region.binds .any e || listed.getD e.on false) = true := h3
        have := (Array.all_eq_true_iff_forall_mem.1 h3') ed hed
        simpa [hb] using this
    · rintro ⟨⟨h1, h2⟩, o, ho, h3⟩
      refine ⟨h1, h2, ?_⟩
      rw [ho]
      show o.after.all _ = true
      refine Array.all_eq_true_iff_forall_mem.2 fun ed hed => ?_
      cases hb : Region.binds .any ed with
      | false => rfl
      | true => simpa using h3 ed hed hb
  have nonempty : ∀ (listed : Array Bool), listed.size = ops.size → Region.ready .any ops listed = [] → ((List.range ops.size).filter fun i => !listed.getD i true) = [] := fun listed hls h => by
    cases hf : (List.range ops.size).filter fun i => !listed.getD i true with
    | nil => rfl
    | cons x L =>
      exfalso
      have hx : x ∈ (List.range ops.size).filter fun i => !listed.getD i true := by rw [hf]; exact List.mem_cons_self
      have hxr := List.mem_range.1 (List.mem_filter.1 hx).1
      have hsp := spec x (List.mem_range.2 hxr)
      have hmin : ∀ y, y < x → listed.getD y true = true := fun y hy => by
        cases hl : listed.getD y true with
        | true => rfl
        | false =>
          exfalso
          have hy' : y ∈ (List.range ops.size).filter fun i => !listed.getD i true := List.mem_filter.2 ⟨List.mem_range.2 (by omega), by simp [hl]⟩
          have hs : ((List.range ops.size).filter fun i => !listed.getD i true).Pairwise (· < ·) := List.Pairwise.filter _ List.pairwise_lt_range
          rw [hf] at hy' hs
          rcases List.mem_cons.1 hy' with e0 | e0
          · omega
          · have := (List.pairwise_cons.1 hs).1 y e0
            omega
      split at hsp
      · rename_i ox ix hox hix
        simp only [Bool.and_eq_true] at hsp
        have : x ∈ Region.ready .any ops listed := (rdy listed x).2 ⟨hx, ox, hox, fun ed hed hb => by
          have h1 := (Array.all_eq_true_iff_forall_mem.1 hsp.1) ed hed
          simp only [hb, Bool.not_true, Bool.false_or, decide_eq_true_eq] at h1
          have h2 := hmin ed.on h1
          have hlt : ed.on < listed.size ∨ listed.size ≤ ed.on := Nat.lt_or_ge _ _
          rcases hlt with hlt | hlt
          · simpa [hlt] using h2
          · omega⟩
        rw [h] at this
        cases this
      · cases hsp
  intro fuel
  induction fuel with
  | zero =>
    intro listed s m a w hls hcl hlen hT S
    have hnil := List.eq_nil_of_length_eq_zero (Nat.le_zero.1 hlen)
    rw [hnil] at hT
    refine ⟨?_, hQ a w s m S hT⟩
    cases hr : Region.ready .any ops listed with
    | nil => rfl
    | cons i L =>
      have := ((rdy listed i).1 (by rw [hr]; exact List.mem_cons_self)).1
      rw [hnil] at this
      cases this
  | succ fuel ih =>
    intro listed s m a w hls hcl hlen hT S
    refine ⟨fun hr => ?_, fun i hi => ?_⟩
    · rw [nonempty listed hls hr] at hT
      exact hQ a w s m S hT
    · obtain ⟨hi1, oi, hoi, hi2⟩ := (rdy listed i).1 hi
      obtain ⟨L1, L2, hsplit⟩ := List.append_of_mem hi1
      have hs : ((List.range ops.size).filter fun i => !listed.getD i true).Pairwise (· < ·) := List.Pairwise.filter _ List.pairwise_lt_range
      rw [hsplit] at hs
      obtain ⟨hs1, hs2, hs3⟩ := List.pairwise_append.1 hs
      have hL1 : ∀ y ∈ L1, y < i := fun y hy => hs3 y hy i List.mem_cons_self
      have hL2 : ∀ y ∈ L2, i < y := fun y hy => (List.pairwise_cons.1 hs2).1 y hy
      have hunl : ∀ y ∈ L1, listed.getD y true = false := fun y hy => by
        have : y ∈ (List.range ops.size).filter fun i => !listed.getD i true := by rw [hsplit]; exact List.mem_append.2 (.inl hy)
        simpa using (List.mem_filter.1 this).2
      rw [hsplit] at hT
      have hsp := spec i (List.mem_filter.1 hi1).1
      have hfront := Tr.front hL (L1 := L1) (L2 := L2) (i := i) (fun y hy oy oi' hoy hoi' => by
        rw [hoi] at hoi'
        cases hoi'
        rw [hoi] at hsp
        split at hsp
        · rename_i ox ix hox hix
          cases hox
          simp only [Bool.and_eq_true] at hsp
          have h2 := List.all_eq_true.1 hsp.2 y (List.mem_range.2 (hL1 y hy))
          rw [Bool.or_eq_true] at h2
          rcases h2 with h2 | h2
          · exfalso
            have hre := clo_reach (ops := ops) ops.toList [] [] (by simp) rfl (fun x y hy => by simp at hy) i y (by simpa using h2)
            have h3 := hre.listed hcl hoi hi2
            have h4 := hunl y hy
            have hyl : y < listed.size := by
              have := List.mem_range.1 (List.mem_filter.1 hi1).1
              have := hL1 y hy
              omega
            simp [hyl] at h3 h4
            rw [h3] at h4
            cases h4
          · rw [hoy] at h2
            split at h2
            · rename_i oy' iy hoy' hiy
              cases hoy'
              rw [hI y iy hiy, hI i ix hix]
              exact h2
            · cases h2
        · cases hsp) hT
      obtain ⟨o, p, s1, ho, hop, hp', hT'⟩ := hfront
      refine runOp_ok hG S ho (opF_runOp hop hp' (K := fun s' => Tr P Γ ops I (L1 ++ L2) s' e) hT') fun a' w' s' m' S' hT'' => ?_
      have hnew : ((List.range ops.size).filter fun j => !(listed.setIfInBounds i true).getD j true) = L1 ++ L2 := by
        have e1 : (fun j => !(listed.setIfInBounds i true).getD j true) = fun j => decide (j ≠ i) && !listed.getD j true := by
          funext j
          by_cases hj : j = i
          · subst hj
            have : j < listed.size := by have := List.mem_range.1 (List.mem_filter.1 hi1).1; omega
            simp [this]
          · simp only [Array.getD_eq_getD_getElem?]
            rw [Array.getElem?_setIfInBounds_ne (fun q => hj q.symm)]
            simp [hj]
        rw [e1, ← List.filter_filter, hsplit, List.filter_append, List.filter_cons_of_neg (by simp)]
        congr 1
        · exact List.filter_eq_self.2 fun y hy => by have := hL1 y hy; simp; omega
        · exact List.filter_eq_self.2 fun y hy => by have := hL2 y hy; simp; omega
      have hil : i < listed.size := by have := List.mem_range.1 (List.mem_filter.1 hi1).1; omega
      have hset : ∀ j, listed.getD j false = true → (listed.setIfInBounds i true).getD j false = true := fun j hj => by
        by_cases e : j = i
        · subst e; simp [hil]
        · simp only [Array.getD_eq_getD_getElem?] at hj ⊢
          rw [Array.getElem?_setIfInBounds_ne (fun q => e q.symm)]; exact hj
      refine ih (listed.setIfInBounds i true) s' m' a' w' (by simpa using hls) (fun x ox hx hxl ed hed hb => ?_) ?_ ?_ S'
      · by_cases e : x = i
        · subst e
          rw [hoi] at hx; cases hx
          exact hset _ (hi2 ed hed hb)
        · refine hset _ (hcl x ox hx ?_ ed hed hb)
          simp only [Array.getD_eq_getD_getElem?] at hxl ⊢
          rw [Array.getElem?_setIfInBounds_ne (fun q => e q.symm)] at hxl; exact hxl
      · rw [hnew]
        rw [hsplit] at hlen
        simp only [List.length_append, List.length_cons] at hlen ⊢
        omega
      · rw [hnew]; exact hT''
/-- A region's run in the text's order, with what each operation names. -/
def runT (P : Program) (Γ : Gam) (ops : Array Oper) : List Oper → List Info → St → (List Info → St → Prop) → Prop
  | [], acc, s, K => K acc s
  | o :: os, acc, s, K => match opF P Γ ops o s with
    | some (p, i, s1) => p ∧ runT P Γ ops os (acc ++ [i]) s1 K
    | none => False
theorem runT_tr {K : List Info → St → Prop} : ∀ (L : List Nat) (os : List Oper) (acc : List Info) (s : St), os.length = L.length → (∀ (k i : Nat) (o : Oper), L[k]? = some i → os[k]? = some o → ops[i]? = some o) → (∀ (k i : Nat), L[k]? = some i → i = acc.length + k) → runT P Γ ops os acc s K →
    ∃ is e, K (acc ++ is) e ∧ is.length = L.length ∧ ∀ I : Nat → Info, (∀ (k : Nat) (x : Info), is[k]? = some x → I (acc.length + k) = x) → Tr P Γ ops I L s e
  | [], [], acc, s, _, _, _, h => ⟨[], s, by rw [List.append_nil]; exact h, rfl, fun _ _ => .refl s⟩
  | i :: L, o :: os, acc, s, hl, ho, hi, h => by
    unfold runT at h
    split at h
    case h_2 => exact h.elim
    rename_i p inf s1 hop
    obtain ⟨hp, h⟩ := h
    obtain ⟨is, e, h1, h2, h3⟩ := runT_tr L os (acc ++ [inf]) s1 (by simpa using hl) (fun k i o e1 e2 => ho (k + 1) i o (by simpa using e1) (by simpa using e2)) (fun k i e1 => by
      have := hi (k + 1) i (by simpa using e1)
      simp only [List.length_append, List.length_singleton]; omega) h
    refine ⟨inf :: is, e, by simpa using h1, by simp [h2], fun I hI => ?_⟩
    have h0 := hi 0 i rfl
    refine ⟨o, p, s1, ho 0 i o rfl rfl, ?_, hp, h3 I fun k x hx => ?_⟩
    · have := hI 0 inf rfl
      rw [Nat.add_zero] at this h0
      rw [h0, this]
      exact hop
    · have := hI (k + 1) x (by simpa using hx)
      simp only [List.length_append, List.length_singleton]
      rw [← this]
      congr 1
      omega
  | [], _ :: _, _, _, hl, _, _, _ => by simp at hl
  | _ :: _, [], _, _, hl, _, _, _ => by simp at hl
/-- What is asked of a region that draws. -/
def DRun (P : Program) (Γ : Gam) : Array Oper → St → (St → Prop) → Prop := fun ops s K => runT P Γ ops ops.toList [] s fun is s' => pairsOk ops is = true ∧ K s'
theorem draw_ok (hm : P.follows .mixedOrders = true) (hG : Gok P Γ) (hL : Gloc Γ) {C : Ctx} {id : Nat} {Q : Exit → St → Prop} {m : Nat → Value} {a : Act} {w : World} (h : DRun P Γ ops s (Q .normal)) (S : Sat C m s a w) : (Code.region id ops true).wp P (Lift C Q) a w := by
  obtain ⟨is, e, ⟨h1, h2⟩, h3, h4⟩ := runT_tr (List.range ops.size) ops.toList [] s (by simp) (fun k i o e1 e2 => by
    rw [Array.getElem?_toList] at e2
    have hk : k < ops.size := (Array.getElem?_eq_some_iff.1 e2).1
    rw [List.getElem?_range hk] at e1
    cases e1
    exact e2) (fun k i e1 => by
      have hk : k < ops.size := by have := (List.getElem?_eq_some_iff.1 e1).1; simpa using this
      rw [List.getElem?_range hk] at e1
      cases e1
      simp) h
  simp only [List.nil_append] at h1 h2
  refine wp_region_any hm ?_
  let I : Nat → Info := fun k => (is[k]?).getD ⟨[], [], []⟩
  have hfil : ((List.range ops.size).filter fun i => !(Array.replicate ops.size false).getD i true) = List.range ops.size := List.filter_eq_self.2 fun i hi => by simp [List.mem_range.1 hi]
  have hdr : Sat C m s a { w with drawn := w.drawn + 1 } := by
    have hmo : ∀ b, im C m w s.hp b → im C m { w with drawn := w.drawn + 1 } s.hp b ∧ ({ w with drawn := w.drawn + 1 } : World).heap[b]? = w.heap[b]? := fun b hb => ⟨hb, rfl⟩
    have hob : ∀ o obj, s.hp.get o = some obj → ObjSat { w with drawn := w.drawn + 1 } (im C m { w with drawn := w.drawn + 1 } s.hp) m o obj := fun o obj ho => (S.inv.live o obj ho).mono hmo (fun _ _ => rfl) rfl (fun _ _ => rfl)
    exact ⟨⟨S.inv.os, S.inv.tape, S.inv.output, S.inv.size, S.inv.frame, hob, S.inv.sep, S.inv.own⟩, S.size, S.defers, fun t c hl => ⟨(S.slots t c hl).1.mono hmo (fun _ _ => rfl), (S.slots t c hl).2⟩, S.heap, S.small, S.pin⟩
  exact any_order hG hL (I := I) (K := Q .normal) h1 (fun i x hx => by show (is[i]?).getD _ = x; rw [hx]; rfl) (e := e) (fun a' w' s' m' S' heq => ⟨e, m', S'.eqv heq, h2⟩) ops.size _ s m a _ (by simp) (fun x ox hx hl => by
    exfalso
    simp only [Array.getD_eq_getD_getElem?, Array.getElem?_replicate] at hl
    split at hl <;> cases hl) (by rw [hfil]; simp) (by rw [hfil]; exact h4 I fun k x hx => by simp only [List.length_nil, Nat.zero_add]; show (is[k]?).getD _ = x; rw [hx]; rfl) hdr
end
end Go.Proofs.Ytlhhibhcoefolaa.Eng
