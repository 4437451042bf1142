/- Regions that draw their order: where the operations keep apart, every order comes to what the text's order comes to. -/
import Derived.Test.YtlhhibhcoefolaaEngFn
namespace Go.Proofs.Ytlhhibhcoefolaa.Eng
open Go
/-- Two states that know the same. -/
def St.eqv (s t : St) : Prop := s.n = t.n ∧ (∀ i, i ∈ s.used ↔ i ∈ t.used) ∧ (∀ i, s.sl.lookup i = t.sl.lookup i) ∧ ∀ o, s.hp.get o = t.hp.get o
theorem St.eqv.refl (s : St) : s.eqv s := ⟨rfl, fun _ => Iff.rfl, fun _ => rfl, fun _ => rfl⟩
theorem St.eqv.symm {s t : St} (h : s.eqv t) : t.eqv s := ⟨h.1.symm, fun i => (h.2.1 i).symm, fun i => (h.2.2.1 i).symm, fun o => (h.2.2.2 o).symm⟩
theorem St.eqv.trans {s t r : St} (h : s.eqv t) (k : t.eqv r) : s.eqv r := ⟨h.1.trans k.1, fun i => (h.2.1 i).trans (k.2.1 i), fun i => (h.2.2.1 i).trans (k.2.2.1 i), fun o => (h.2.2.2 o).trans (k.2.2.2 o)⟩
theorem im_congr {C : Ctx} {m : Nat → Value} {w : World} {hp hp' : Hp} (h : ∀ o, hp.get o = hp'.get o) : im C m w hp = im C m w hp' := by
  funext b
  simp only [im, h]
theorem Sat.eqv {C : Ctx} {m : Nat → Value} {s t : St} {a : Act} {w : World} (S : Sat C m s a w) (h : s.eqv t) : Sat C m t a w := by
  obtain ⟨h1, h2, h3, h4⟩ := h
  have e := im_congr (C := C) (m := m) (w := w) h4
  refine ⟨⟨S.inv.os, S.inv.tape, S.inv.output, S.inv.size, S.inv.frame, fun o obj ho => ?_, fun o o' x x' b ho ho' => ?_, fun o x b ho => ?_⟩, by rw [S.size, h1], S.defers, fun i c hl => ?_, fun o obj ho => ?_, by rw [← h1]; exact S.small, S.pin⟩
  · rw [← e]; exact S.inv.live o obj (by rw [h4]; exact ho)
  · exact S.inv.sep o o' x x' b (by rw [h4]; exact ho) (by rw [h4]; exact ho')
  · exact S.inv.own o x b (by rw [h4]; exact ho)
  · rw [← e]
    obtain ⟨q1, q2⟩ := S.slots i c (by rw [h3]; exact hl)
    exact ⟨q1, fun j hj => (h2 j).1 (q2 j hj)⟩
  · obtain ⟨q1, q2⟩ := S.heap o obj (by rw [h4]; exact ho)
    exact ⟨(h2 o).1 q1, fun j hj => (h2 j).1 (q2 j hj)⟩
/-- What the operation's answer hangs on. -/
def Agree (l : List Nat) (h h' : Nat → Option AObj) : Prop := ∀ i ∈ l, h i = h' i
theorem toD_loc {h h' : Nat → Option AObj} : ∀ {c : AV}, Agree c.ids h h' → toD h c = toD h' c := fun {c} ha => by
  cases c <;> simp only [toD]
  rw [ha _ (by simp [AV.ids])]
theorem toDs_loc {h h' : Nat → Option AObj} : ∀ {l : List AV}, Agree (AV.ids.idsL l) h h' → toDs h l = toDs h' l
  | [], _ => rfl
  | c :: l, ha => by
    simp only [toDs]
    rw [toD_loc (c := c) (fun i hi => ha i (by simp [AV.ids.idsL, hi])), toDs_loc (l := l) (fun i hi => ha i (by simp [AV.ids.idsL, hi]))]
theorem cells_ids {c : AV} : ∀ i ∈ AV.ids.idsL c.cells, i ∈ c.ids := fun i hi => by
  cases c <;> simp_all [AV.cells, AV.ids, AV.ids.idsL]
mutual
theorem fz_loc {h h' : Nat → Option AObj} : ∀ {c : AV}, Agree c.ids h h' → fz h c = fz h' c
  | .d x, _ => rfl
  | .row o n, ha => by simp only [fz]; rw [ha o (by simp [AV.ids])]
  | .agg l, ha => by simp only [fz]; rw [fzL_loc ha]
  | .tup l, ha => by simp only [fz]; rw [fzL_loc ha]
  | .fn f l, ha => by simp only [fz]; rw [fzL_loc ha]
  | .ptr o off, ha => by simp only [fz]; rw [ha o (by simp [AV.ids])]
  | .ep _ _, _ => rfl
  | .rp _ _ _ _, _ => rfl
  | .gd _ _, _ => rfl
  | .bad, _ => rfl
theorem fzL_loc {h h' : Nat → Option AObj} : ∀ {l : List AV}, Agree (AV.ids.idsL l) h h' → fz.fzL h l = fz.fzL h' l
  | [], _ => rfl
  | c :: l, ha => by
    simp only [fz.fzL]
    rw [fz_loc (c := c) (fun i hi => ha i (by simp [AV.ids.idsL, hi])), fzL_loc (l := l) (fun i hi => ha i (by simp [AV.ids.idsL, hi]))]
end
def Gloc (Γ : Gam) : Prop := ∀ g d args h h', Agree (AV.ids.idsL args) h h' → Γ g h d args = Γ g h' d args
theorem Gloc.none : Gloc Gam.none := fun _ _ _ _ _ _ => rfl
theorem Gloc.add {Γ : Gam} (h : Gloc Γ) (g0 : Nat) (F : List AV → Option (Prop × AV)) : Gloc (Γ.add g0 F) := fun g d args h1 h2 ha => by
  unfold Gam.add
  split
  · unfold calmE; rw [fzL_loc ha]
  · exact h g d args h1 h2 ha
theorem effLoad_loc {P : Program} {t : Nat} {h h' : Nat → Option AObj} {c : AV} (ha : Agree c.ids h h') : effLoad P h t c = effLoad P h' t c := by
  cases c <;> simp only [effLoad] <;> rw [ha _ (by simp [AV.ids])]
theorem effStore_loc {P : Program} {t : Nat} {h h' : Nat → Option AObj} {c x : AV} (ha : Agree (c.ids ++ x.ids) h h') : effStore P h t c x = effStore P h' t c x := by
  cases c <;> simp only [effStore]
  · rw [ha _ (by simp [AV.ids])]
  · rw [ha _ (by simp [AV.ids]), toDs_loc (fun i hi => ha i (List.mem_append.2 (.inr (cells_ids i hi))))]
theorem effIndexAddr_loc {P : Program} {t : Nat} {h h' : Nat → Option AObj} {c x : AV} (ha : Agree (c.ids ++ x.ids) h h') : effIndexAddr P h t c x = effIndexAddr P h' t c x := by
  unfold effIndexAddr
  split
  · rfl
  · rw [ha _ (by simp [AV.ids])]
  · rfl
  · rfl
  · rfl
  · rfl
theorem effSlice_loc {P : Program} {d t : Nat} {h h' : Nat → Option AObj} {c : AV} {lo hi : Option AV} (ha : Agree c.ids h h') : effSlice P h d t c lo hi = effSlice P h' d t c lo hi := by
  unfold effSlice
  split
  · rfl
  · rfl
  · rw [ha _ (by simp [AV.ids])]
  · rw [ha _ (by simp [AV.ids])]
  · rfl
theorem effConv_loc {P : Program} {s t : Nat} {h h' : Nat → Option AObj} {c : AV} (ha : Agree c.ids h h') : effConv P h s t c = effConv P h' s t c := by
  unfold effConv
  split
  · split <;> try rfl
    all_goals rw [ha _ (by simp [AV.ids])]
  · rfl
theorem srcOf_loc {P : Program} {sz tx : Nat} {h h' : Nat → Option AObj} {c : AV} (ha : Agree c.ids h h') : srcOf P h sz tx c = srcOf P h' sz tx c := by
  unfold srcOf
  split
  · rw [ha _ (by simp [AV.ids])]
  all_goals rfl
theorem effAppend_loc {P : Program} {d t tx : Nat} {h h' : Nat → Option AObj} {c x : AV} (ha : Agree (c.ids ++ x.ids) h h') : effAppend P h d t tx c x = effAppend P h' d t tx c x := by
  have e : ∀ sz, srcOf P h sz tx x = srcOf P h' sz tx x := fun sz => srcOf_loc fun i hi => ha i (List.mem_append.2 (.inr hi))
  cases c with
  | row o n => simp only [effAppend, e]; rw [ha _ (by simp [AV.ids])]
  | d y =>
    simp only [effAppend, e]
    cases sliceOf P t with
    | none => rfl
    | some p =>
      simp only
      cases srcOf P h' p.2.sz tx x with
      | none => rfl
      | some ys =>
        simp only
        split
        · rfl
        · cases y with
          | sl _ _ => rfl
          | v u =>
            cases u <;> try rfl
            rename_i a n k
            cases a <;> cases n <;> cases k <;> rfl
  | _ => simp only [effAppend, e]
theorem fillA_ids (place : Nat → Option (Nat × Nat)) : ∀ (parts : List (Nat × AV)) (cs cs' : List AV), fillA place cs parts = some cs' → ∀ i ∈ AV.ids.idsL cs', i ∈ AV.ids.idsL cs ∨ ∃ p ∈ parts, i ∈ p.2.ids
  | [], cs, cs', h, i, hi => by cases h; exact .inl hi
  | (j, x) :: rest, cs, cs', h, i, hi => by
    simp only [fillA] at h
    split at h
    · split at h
      · rcases fillA_ids place rest _ _ h i hi with h1 | ⟨p, h1, h2⟩
        · have app : ∀ (l k : List AV), AV.ids.idsL (l ++ k) = AV.ids.idsL l ++ AV.ids.idsL k := fun l k => by
            induction l with
            | nil => rfl
            | cons a l ih => simp [AV.ids.idsL, ih]
          have tk : ∀ (n : Nat) (l : List AV), ∀ i ∈ AV.ids.idsL (l.take n), i ∈ AV.ids.idsL l := fun n l i hi => by
            have := app (l.take n) (l.drop n)
            rw [List.take_append_drop] at this
            rw [this]; exact List.mem_append.2 (.inl hi)
          have dp : ∀ (n : Nat) (l : List AV), ∀ i ∈ AV.ids.idsL (l.drop n), i ∈ AV.ids.idsL l := fun n l i hi => by
            have := app (l.take n) (l.drop n)
            rw [List.take_append_drop] at this
            rw [this]; exact List.mem_append.2 (.inr hi)
          rw [put, app, app] at h1
          rcases List.mem_append.1 h1 with h1 | h1
          · rcases List.mem_append.1 h1 with h1 | h1
            · exact .inl (tk _ _ i h1)
            · exact .inr ⟨(j, x), List.mem_cons_self, cells_ids i h1⟩
          · exact .inl (dp _ _ i h1)
        · exact .inr ⟨p, List.mem_cons_of_mem _ h1, h2⟩
      · cases h
    · cases h
theorem effBuildSlice_loc {P : Program} {d t n : Nat} {h h' : Nat → Option AObj} {parts : List (Nat × AV)} (ha : ∀ p ∈ parts, Agree p.2.ids h h') : effBuildSlice P h d t n parts = effBuildSlice P h' d t n parts := by
  unfold effBuildSlice
  split
  · rename_i e E hE
    split
    · split
      · rename_i cs hcs
        have : toDs h cs = toDs h' cs := toDs_loc fun i hi => by
          rcases fillA_ids _ _ _ _ hcs i hi with h1 | ⟨p, h1, h2⟩
          · exfalso
            have no : ∀ (f : Nat → Value) (n off : Nat), AV.ids.idsL (seg (fun i => AV.d (.v (f i))) off n) = [] := fun f n => by
              induction n with
              | zero => intro off; rfl
              | succ n ih => intro off; simp [seg, AV.ids.idsL, AV.ids, ih]
            rw [no (fun i => E.z.getD (i % E.sz) default)] at h1
            cases h1
          · exact ha p h1 i h2
        rw [this]
      · rfl
    · rfl
  · rfl
/-- What the operation names. -/
def opIds (look : Operand → AV) (o : Op) : List Nat := AV.ids.idsL (o.operands.toList.map look)
theorem opIds_mem {look : Operand → AV} {o : Op} {x : Operand} (h : x ∈ o.operands) : ∀ i ∈ (look x).ids, i ∈ opIds look o := fun i hi => by
  have h2 : look x ∈ o.operands.toList.map look := List.mem_map.2 ⟨x, by simpa using h, rfl⟩
  obtain ⟨k, hk, e⟩ := List.getElem_of_mem h2
  exact idsL_mem (List.getElem?_eq_getElem hk) i (by rw [e]; exact hi)
theorem eff_loc {P : Program} {look : Operand → AV} {d : Nat} {o : Op} {h h' : Nat → Option AObj} (ha : Agree (opIds look o) h h') : eff P h look d o = eff P h' look d o := by
  have on : ∀ x, x ∈ o.operands → Agree (look x).ids h h' := fun x hx i hi => ha i (opIds_mem hx i hi)
  have on2 : ∀ x y, x ∈ o.operands → y ∈ o.operands → Agree ((look x).ids ++ (look y).ids) h h' := fun x y hx hy i hi => (List.mem_append.1 hi).elim (on x hx i) (on y hy i)
  cases o <;> try rfl
  case buildSlice t n parts =>
    exact effBuildSlice_loc fun p hp => by
      obtain ⟨q, hq, rfl⟩ := List.mem_map.1 hp
      exact on _ (by simp only [Op.operands]; simp; exact ⟨q.1, by simpa using hq⟩)
  case load t x => exact effLoad_loc (on _ (by simp [Op.operands]))
  case store t x y => exact effStore_loc (on2 _ _ (by simp [Op.operands]) (by simp [Op.operands]))
  case convert s t x => exact effConv_loc (on _ (by simp [Op.operands]))
  case slice t x lo hi mx =>
    cases mx with
    | none => exact effSlice_loc (on _ (by simp [Op.operands]))
    | some _ => rfl
  case indexAddr t x i => exact effIndexAddr_loc (on2 _ _ (by simp [Op.operands]) (by simp [Op.operands]))
  case makeFunc fn first caps => cases fn <;> rfl
  case call c =>
    obtain ⟨cal, args, ts⟩ := c
    cases cal with
    | builtin b =>
      obtain ⟨args⟩ := args
      simp only [eff, effCall]
      split <;> try rfl
      rename_i t tx s x hts hl
      rw [effAppend_loc]
      intro i hi
      refine ha i ?_
      simp only [opIds, Op.operands, Call.operands, Array.empty_append]
      rw [hl]
      simpa [AV.ids.idsL] using hi
    | _ => rfl
end Go.Proofs.Ytlhhibhcoefolaa.Eng
