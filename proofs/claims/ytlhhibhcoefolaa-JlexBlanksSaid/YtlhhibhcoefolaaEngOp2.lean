/- Stores, places and parts, on the small machine. -/
import Derived.Test.YtlhhibhcoefolaaEngOp
namespace Go.Proofs.Ytlhhibhcoefolaa.Eng
open Go
set_option linter.unusedVariables false
set_option linter.unusedSimpArgs false
def drops (l : List Nat) : Hp := l.map fun o => (o, none)
theorem drops_get (l : List Nat) (hp : Hp) (o : Nat) : Hp.get (drops l ++ hp) o = if o ∈ l then none else Hp.get hp o := by
  induction l with
  | nil => simp [drops]
  | cons a l ih =>
    show Hp.get ((a, none) :: (drops l ++ hp)) o = _
    rw [Hp.get_cons, ih]
    by_cases h : o = a <;> simp [h]
theorem drops_sub (l : List Nat) (hp : Hp) : ∀ o obj, Hp.get (drops l ++ hp) o = some obj → hp.get o = some obj := fun o obj h => by
  rw [drops_get] at h
  split at h
  · cases h
  · exact h
/-- What an abstract value reads as, and the rows that are let go for it. -/
def toD (h : Nat → Option AObj) : AV → Option (Dat × List Nat)
  | .d x => some (x, [])
  | .row o _ => match h o with
    | some (.row _ sz xs) => some (.sl sz xs, [o])
    | _ => none
  | _ => none
def toDs (h : Nat → Option AObj) : List AV → Option (List Dat × List Nat)
  | [] => some ([], [])
  | c :: cs => match toD h c, toDs h cs with
    | some (x, l), some (xs, k) => some (x :: xs, l ++ k)
    | _, _ => none
section
variable {P : Program} {C : Ctx} {m : Nat → Value} {w : World} {hp : Hp} {d : Nat} {sc : Prop}
theorem row_rd (I : Inv C m w hp) {o e sz : Nat} {xs : List (List Dat)} (ho : hp.get o = some (.row e sz xs)) {hp1 : Hp} (hsub : ∀ o obj, hp1.get o = some obj → hp.get o = some obj) (hno : hp1.get o = none) : Rd w (im C m w hp1) (m o) (.sl sz xs) := by
  obtain ⟨us, h1, h2, h3⟩ := I.live o _ ho
  have k := (I.drop hsub).2
  rcases h1.2 with ⟨hn, h0⟩ | ⟨g, cap, cur, hv, _, hh, hle, _, hcs, htk⟩
  · rw [hn, List.eq_nil_of_length_eq_zero h0]; exact .nil sz
  · rw [hv]
    have hg : blk (m o) = some g := by rw [hv]; rfl
    have hcell : ∀ j u, us[j]? = some u → w.cell? ((⟨g, 0, none⟩ : Addr).add j) = some u := fun j u hu => by
      rw [addr_eta _ rfl, ← htk, List.getElem?_take] at *
      split at hu
      · simp only [World.cell?, hh, Nat.zero_add]; simpa using hu
      · cases hu
    refine .sl (fun i j => us.getD (i * sz + j) default) (fun _ => rfl) rfl hle (fun _ => ⟨(Array.getElem?_eq_some_iff.1 hh).1, ?_, fun o' x ho' e => ?_⟩) h2 (fun i j r x q1 q2 => ?_) (fun i j r x q1 q2 => ?_)
    · rcases I.own o _ g ho hg with h | h <;> simp [h]
    · have hne : o ≠ o' := fun q => by subst q; rw [hno] at ho'; cases ho'
      exact I.sep o o' _ x g ho (hsub o' x ho') hne hg e
    · obtain ⟨u, q3, _⟩ := h3 i j r x q1 q2
      rw [getD_some q3]; exact hcell _ _ q3
    · obtain ⟨u, q3, q4⟩ := h3 i j r x q1 q2
      rw [getD_some q3]; exact q4.mono k
theorem toD_rd (I : Inv C m w hp) {c : AV} {u : Value} {x : Dat} {l : List Nat} (h : toD hp.get c = some (x, l)) (hv : Val w (im C m w hp) m u c) {hp1 : Hp} (hsub : ∀ o obj, hp1.get o = some obj → hp.get o = some obj)
    (hl : ∀ o ∈ l, hp1.get o = none) : Rd w (im C m w hp1) u x := by
  cases hv with
  | d r => cases h; exact r.mono (I.drop hsub).2
  | @row o n cap a hm =>
    simp only [toD] at h
    split at h
    · rename_i e sz xs ho
      cases h
      rw [← hm]
      exact row_rd I ho hsub (hl o (by simp))
    · cases h
  | _ => simp [toD] at h
theorem toDs_length {h : Nat → Option AObj} : ∀ {cs : List AV} {xs : List Dat} {l : List Nat}, toDs h cs = some (xs, l) → xs.length = cs.length
  | [], _, _, e => by cases e; rfl
  | c :: cs, xs, l, e => by
    simp only [toDs] at e
    split at e
    · rename_i x l1 xs1 k h1 h2
      cases e
      simp [toDs_length h2]
    · cases e
theorem toDs_get {h : Nat → Option AObj} : ∀ {cs : List AV} {xs : List Dat} {l : List Nat}, toDs h cs = some (xs, l) → ∀ (i : Nat) (x : Dat), xs[i]? = some x → ∃ c l1, cs[i]? = some c ∧ toD h c = some (x, l1) ∧ ∀ o ∈ l1, o ∈ l
  | [], _, _, e, i, x, hx => by cases e; simp at hx
  | c :: cs, xs, l, e, i, x, hx => by
    simp only [toDs] at e
    split at e
    · rename_i x1 l1 xs1 k h1 h2
      cases e
      cases i with
      | zero => simp only [List.getElem?_cons_zero, Option.some.injEq] at hx; subst hx; exact ⟨c, l1, rfl, h1, fun o ho => List.mem_append.2 (.inl ho)⟩
      | succ i =>
        obtain ⟨c', l', q1, q2, q3⟩ := toDs_get h2 i x (by simpa using hx)
        exact ⟨c', l', by simpa using q1, q2, fun o ho => List.mem_append.2 (.inr (q3 o ho))⟩
    · cases e
theorem toD_one (I : Inv C m w hp) {c : AV} {x : Dat} {l : List Nat} (h : toD hp.get c = some (x, l)) : c.cell = true := by
  cases c <;> simp_all [toD, AV.cell]

/-! ### Stores -/
def put {α : Type} (l : List α) (off : Nat) (ys : List α) : List α := l.take off ++ ys ++ l.drop (off + ys.length)
theorem put_length {α : Type} {l : List α} {off : Nat} {ys : List α} (h : off + ys.length ≤ l.length) : (put l off ys).length = l.length := by
  simp only [put, List.length_append, List.length_take, List.length_drop]; omega
theorem put_get {α : Type} {l : List α} {off : Nat} {ys : List α} (h : off + ys.length ≤ l.length) (i : Nat) : (put l off ys)[i]? = if off ≤ i ∧ i < off + ys.length then ys[i - off]? else l[i]? := by
  have ht : (l.take off).length = off := by rw [List.length_take]; omega
  unfold put
  by_cases h1 : i < off
  · rw [if_neg (by omega), List.append_assoc, List.getElem?_append_left (by omega), List.getElem?_take, if_pos h1]
  · by_cases h2 : i < off + ys.length
    · rw [if_pos ⟨by omega, h2⟩, List.append_assoc, List.getElem?_append_right (by omega), ht, List.getElem?_append_left (by omega)]
    · rw [if_neg (by omega), List.getElem?_append_right (by rw [List.length_append]; omega), List.length_append, ht, List.getElem?_drop]
      congr 1; omega
def effStore (P : Program) (h : Nat → Option AObj) (t : Nat) : AV → AV → Option Eff
  | .ptr o off, x => match ti P t, h o with
    | some T, some (.cells ety cs) => if x.cells.length = T.sz ∧ off + x.cells.length ≤ cs.length ∧ allCell x.cells = true then some { sc := True, val := .bad, up := [(o, some (.cells ety (put cs off x.cells)))] } else none
    | _, _ => none
  | .rp o sz i off, x => match ti P t, h o, toDs h x.cells with
    | some T, some (.row e s xs), some (ys, l) => if s = sz ∧ ys.length = T.sz ∧ o ∉ l then
        some { sc := i < xs.length ∧ off + ys.length ≤ sz, val := .bad, up := (o, some (.row e sz (xs.set i (if off = 0 ∧ ys.length = sz then ys else put (xs.getD i []) off ys)))) :: drops l } else none
    | _, _, _ => none
  | _, _ => none
theorem run_store_row {t : Nat} {T : Ti} (hT : ti P t = some T) {b off : Nat} {us : Array Value} {e : TypeId} {u : Value} (hb : w.heap[b]? = some (.cells us e (0, 0))) (hn : u.cells.size = T.sz) (hle : off + u.cells.size ≤ us.size)
    (h1 : ∀ v ∈ u.cells.toList, v.oneCell' = true) : (Instr.storeAt t (.pointer (some ⟨b, off, none⟩)) u).run P w = .ok () (w.setRow b (put us.toList off u.cells.toList).toArray) := by
  have h := run_storeCells_at P b off e u.cells.toList 0 us w hb (by simpa using hle) h1
  simp only [Instr.storeAt, Instr.sureAddr, Sem.run_bind, Sem.run_pure, Result.andThen_ok, storeVar, run_sizeOf hT, hn, ne_eq, not_true_eq_false, if_false, put]
  simpa [stuck] using h
theorem effStore_ok (I : Inv C m w hp) {t : Nat} {a x : AV} {ua u : Value} {e : Eff} (he : effStore P hp.get t a x = some e) (hs : e.sc) (hva : Val w (im C m w hp) m ua a) (hv : Val w (im C m w hp) m u x) :
    OkU C m w hp e ((Instr.storeAt t ua u).run P w) := by
  cases hva with
  | @ptr o off b hm =>
    simp only [effStore] at he
    split at he
    · rename_i T ety cs hT ho
      split at he
      · rename_i hc
        obtain ⟨hc1, hc2, hc3⟩ := hc
        cases he
        obtain ⟨b', us, h1, h2, h3, h4, h5⟩ := I.live o _ ho
        rw [hm] at h1
        cases h1
        obtain ⟨g1, g2, g3⟩ := hv.cells hc3
        have hle : off + u.cells.toList.length ≤ us.toList.length := by simp; omega
        rw [run_store_row hT h2 (by omega) (by omega) g3]
        obtain ⟨I', k⟩ := I.put (m' := m) (w' := w.setRow b (put us.toList off u.cells.toList).toArray) (hp1 := hp) (fun _ _ h => h) o (.cells ety (put cs off x.cells)) (fun _ _ => rfl) (.inl rfl) rfl rfl rfl (by simp)
          (fun k _ hk => setRow_other w b k _ (fun e => hk (by rw [hm, e]; rfl)))
          (fun b' hb' => by
            rw [hm] at hb'
            cases hb'
            exact ⟨I.own o _ b ho (by rw [hm]; rfl), I.not_im ho (by rw [hm]; rfl), fun o' x' ho' hne e => I.sep o o' _ x' b ho ho' (fun q => hne q.symm) (by rw [hm]; rfl) e⟩)
          (fun im' hk => by
            refine ⟨b, _, hm, setRow_heap w b us _ ety _ h2, by rw [List.size_toArray, put_length hle, put_length hc2]; simpa using h3, fun i u' c q1 q2 => ?_, fun c hc => ?_⟩
            · rw [List.getElem?_toArray, put_get hle] at q1
              rw [put_get hc2] at q2
              rw [Array.length_toList, g1] at q1
              split at q1
              · rename_i hi
                rw [if_pos hi] at q2
                exact (g2 _ _ _ (by simpa using q1) q2).mono hk (fun _ _ => rfl)
              · rename_i hi
                rw [if_neg hi] at q2
                exact (h4 i _ _ (by simpa using q1) q2).mono hk (fun _ _ => rfl)
            · obtain ⟨i, hi, e⟩ := List.getElem_of_mem hc
              have q := List.getElem?_eq_getElem hi
              rw [e, put_get hc2] at q
              split at q
              · exact List.all_eq_true.1 hc3 c (List.mem_of_getElem? q)
              · exact h5 c (List.mem_of_getElem? q))
        exact ⟨_, rfl, I', k⟩
      · cases he
    · cases he
  | @rp o sz i off b n cap hm =>
    simp only [effStore] at he
    split at he
    · rename_i T e0 s xs ys l hT ho hD
      split at he
      · rename_i hc
        obtain ⟨rfl, hc1, hc2⟩ := hc
        cases he
        obtain ⟨hi, hle0⟩ := hs
        obtain ⟨us, h1, h2, h3⟩ := I.live o _ ho
        rw [hm] at h1
        obtain ⟨hul, h1⟩ := h1
        rcases h1 with ⟨hn, _⟩ | ⟨g, cp, cur, hg, _, hh, hcl, hcm, hcs, htk⟩
        · cases hn
        cases hg
        have hlen := toDs_length hD
        have hcell : allCell x.cells = true := List.all_eq_true.2 fun c hc => by
          obtain ⟨j, hj, e⟩ := List.getElem_of_mem hc
          obtain ⟨c', l1, q1, q2, _⟩ := toDs_get hD j _ (get_getD default (by omega))
          rw [List.getElem?_eq_getElem hj, e] at q1
          cases q1
          exact toD_one I q2
        obtain ⟨g1, g2, g3⟩ := hv.cells hcell
        have hmul : (i + 1) * s ≤ xs.length * s := Nat.mul_le_mul_right _ hi
        have hmul2 : xs.length * s ≤ cap * s := Nat.mul_le_mul_right _ hcl
        rw [Nat.add_mul, Nat.one_mul] at hmul
        have hle : i * s + off + u.cells.toList.length ≤ cur.toList.length := by rw [Array.length_toList, Array.length_toList, hcs, g1, ← hlen]; omega
        have hgl : u.cells.toList.length = ys.length := by rw [Array.length_toList, g1, hlen]
        rw [run_store_row hT hh (by rw [g1, ← hlen, hc1]) (by simpa using hle) g3]
        have hri := get_getD [] hi
        have hrl := h2 i _ hri
        have hnew : (if off = 0 ∧ ys.length = s then ys else put (xs.getD i []) off ys) = put (xs.getD i []) off ys := by
          split
          · rename_i hq
            obtain ⟨rfl, hq⟩ := hq
            simp only [put, List.take_zero, List.nil_append, Nat.zero_add, hq]
            rw [List.drop_eq_nil_of_le (by omega), List.append_nil]
          · rfl
        rw [hnew]
        have hpl : (put (xs.getD i []) off ys).length = s := by rw [put_length (by omega)]; exact hrl
        have hsub := drops_sub l hp
        obtain ⟨I1, k1⟩ := I.drop hsub
        have ho1 : Hp.get (drops l ++ hp) o = some (.row e0 s xs) := by rw [drops_get, if_neg hc2]; exact ho
        obtain ⟨I', k⟩ := I1.put (m' := m) (w' := w.setRow b (put cur.toList (i * s + off) u.cells.toList).toArray) (hp1 := drops l ++ hp) (fun _ _ h => h) o (.row e0 s (xs.set i (put (xs.getD i []) off ys))) (fun _ _ => rfl) (.inl rfl) rfl rfl rfl (by simp)
          (fun k _ hk => setRow_other w b k _ (fun e => hk (by rw [hm, e]; rfl)))
          (fun b' hb' => by
            rw [hm] at hb'
            cases hb'
            exact ⟨I.own o _ b ho (by rw [hm]; rfl), I1.not_im ho1 (by rw [hm]; rfl), fun o' x' ho' hne e => I1.sep o o' _ x' b ho1 ho' (fun q => hne q.symm) (by rw [hm]; rfl) e⟩)
          (fun im' hk => by
            have hsz : (put cur.toList (i * s + off) u.cells.toList).length = cap * s := by rw [put_length hle, Array.length_toList, hcs]
            have hrow : ∀ k r, (xs.set i (put (xs.getD i []) off ys))[k]? = some r → k < xs.length ∧ r.length = s ∧ ((k = i ∧ r = put (xs.getD i []) off ys) ∨ (k ≠ i ∧ xs[k]? = some r)) := fun k r hk => by
              rw [List.getElem?_set] at hk
              by_cases e : i = k
              · rw [if_pos e, if_pos hi] at hk
                cases hk
                exact ⟨e ▸ hi, hpl, .inl ⟨e.symm, rfl⟩⟩
              · rw [if_neg e] at hk
                exact ⟨(List.getElem?_eq_some_iff.1 hk).1, h2 k r hk, .inr ⟨fun q => e q.symm, hk⟩⟩
            have old : ∀ k j r x, xs[k]? = some r → r[j]? = some x → ∃ u', cur.toList[k * s + j]? = some u' ∧ Rd w (im C m w hp) u' x := fun k j r x q1 q2 => by
              obtain ⟨u', q3, q4⟩ := h3 k j r x q1 q2
              rw [← htk, List.getElem?_take] at q3
              split at q3
              · exact ⟨u', q3, q4⟩
              · cases q3
            refine ⟨(put cur.toList (i * s + off) u.cells.toList).take (xs.length * s), ⟨by rw [List.length_take, hsz, List.length_set]; omega, .inr ⟨b, cap, _, by rw [hm, List.length_set], Nat.zero_le _, setRow_heap w b cur _ e0 _ hh, by rw [List.length_set]; exact hcl, hcm, by rw [List.size_toArray, hsz], by rw [List.length_set]⟩⟩, fun k r hk => (hrow k r hk).2.1, fun k j r x q1 q2 => ?_⟩
            obtain ⟨hkl, hrl', hcase⟩ := hrow k r q1
            have hj : j < s := by have := (List.getElem?_eq_some_iff.1 q2).1; omega
            have hks : (k + 1) * s ≤ xs.length * s := Nat.mul_le_mul_right _ hkl
            rw [Nat.add_mul, Nat.one_mul] at hks
            rw [List.getElem?_take, if_pos (by omega), put_get hle]
            rcases hcase with ⟨rfl, rfl⟩ | ⟨hne, hx⟩
            · rw [put_get (by omega)] at q2
              by_cases hin : off ≤ j ∧ j < off + ys.length
              · rw [if_pos hin] at q2
                rw [if_pos (by omega)]
                obtain ⟨c, l1, p1, p2, p3⟩ := toDs_get hD _ x q2
                have hjl : j - off < u.cells.size := by rw [g1, ← hlen]; omega
                refine ⟨u.cells.toList.getD (j - off) default, by rw [show k * s + j - (k * s + off) = j - off by omega]; exact get_getD _ (by simpa using hjl), ?_⟩
                have hvc := g2 (j - off) (u.cells.toList.getD (j - off) default) c (by simp [hjl]) p1
                exact (toD_rd I p2 hvc hsub fun o' ho' => by rw [drops_get, if_pos (p3 o' ho')]).mono hk
              · rw [if_neg hin] at q2
                rw [if_neg (by omega)]
                obtain ⟨u', q3, q4⟩ := old k j _ x hri q2
                exact ⟨u', q3, (q4.mono k1).mono hk⟩
            · rw [if_neg (by
                rcases Nat.lt_or_gt_of_ne hne with h | h
                · have := Nat.mul_le_mul_right s (show k + 1 ≤ i from h); rw [Nat.add_mul, Nat.one_mul] at this; omega
                · have := Nat.mul_le_mul_right s (show i + 1 ≤ k from h); rw [Nat.add_mul, Nat.one_mul] at this; omega)]
              obtain ⟨u', q3, q4⟩ := old k j r x hx q2
              exact ⟨u', q3, (q4.mono k1).mono hk⟩)
        exact ⟨_, rfl, I', fun b h => ⟨(k b (k1 b h).1).1, (k b (k1 b h).1).2⟩⟩
      · cases he
    · cases he
  | _ => simp [effStore] at he
end
end Go.Proofs.Ytlhhibhcoefolaa.Eng
