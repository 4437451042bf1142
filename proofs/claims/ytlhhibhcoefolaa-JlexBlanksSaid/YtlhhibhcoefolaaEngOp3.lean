/- Places, parts, lengths and cuts, on the small machine. -/
import Derived.Test.YtlhhibhcoefolaaEngOp2
namespace Go.Proofs.Ytlhhibhcoefolaa.Eng
open Go
def fieldOf (P : Program) (s f : Nat) : Option (Nat × Ti) :=
  match ti P s with
  | some T => match T.d with
    | .struct fs => match fs[f]? with
      | some p => match ti P p.2 with
        | some T' => some (p.1, T')
        | none => none
      | none => none
    | _ => none
  | none => none
def effFieldAddr (P : Program) (s f : Nat) (a : AV) : Option Eff :=
  match fieldOf P s f with
  | some (q, T) => if T.sz = 0 then none else
    match a with
    | .ptr o off => some { sc := True, val := .ptr o (off + q) }
    | .ep cs off => some { sc := True, val := .ep cs (off + q) }
    | .rp o sz i off => some { sc := True, val := .rp o sz i (off + q) }
    | _ => none
  | none => none
def effField (P : Program) (s f : Nat) (a : AV) : Option Eff :=
  match fieldOf P s f with
  | some (q, T) => match a with
    | .agg cs => if T.d.agg then (if q + T.sz ≤ cs.length then some { sc := True, val := .agg (seg (fun j => cs.getD j .bad) q T.sz) } else none) else if q < cs.length then some { sc := True, val := cs.getD q .bad } else none
    | _ => none
  | none => none
def sliceOf (P : Program) (t : Nat) : Option (Nat × Ti) :=
  match ti P t with
  | some T => match T.d with
    | .slice e => match ti P e with
      | some E => some (e, E)
      | none => none
    | _ => none
  | none => none
def effIndexAddr (P : Program) (h : Nat → Option AObj) (t : Nat) : AV → AV → Option Eff
  | .d (.sl sz xs), .d (.v (.int _ i)) => match sliceOf P t with
    | some (_, E) => if sz = E.sz then some { sc := 0 ≤ i ∧ i < xs.length, val := .ep (xs.getD i.toNat (E.z.map .v)) 0 } else none
    | none => none
  | .row o n, .d (.v (.int _ i)) => match sliceOf P t, h o with
    | some (_, E), some (.row _ _ _) => some { sc := 0 ≤ i ∧ i < n, val := .rp o E.sz i.toNat 0 }
    | _, _ => none
  | .ptr o off, .d (.v (.int _ i)) => match ti P t with
    | some T => match T.d with
      | .array n e => match ti P e with
        | some E => some { sc := 0 ≤ i ∧ i < n, val := .ptr o (off + i.toNat * E.sz) }
        | none => none
      | _ => none
    | none => none
  | .ep cs off, .d (.v (.int _ i)) => match ti P t with
    | some T => match T.d with
      | .array n e => match ti P e with
        | some E => some { sc := 0 ≤ i ∧ i < n, val := .ep cs (off + i.toNat * E.sz) }
        | none => none
      | _ => none
    | none => none
  | .rp o sz j off, .d (.v (.int _ i)) => match ti P t with
    | some T => match T.d with
      | .array n e => match ti P e with
        | some E => some { sc := 0 ≤ i ∧ i < n, val := .rp o sz j (off + i.toNat * E.sz) }
        | none => none
      | _ => none
    | none => none
  | _, _ => none
def bt (s : ByteArray) (i : Int) : Int := ((s.data.toList.getD i.toNat 0).toNat : Int)
def effIndex (P : Program) (t : Nat) : AV → AV → Option Eff
  | .d (.v (.string s)), .d (.v (.int _ i)) => match ti P t with
    | some T => match T.d with
      | .str => some { sc := 0 ≤ i ∧ i < s.size, val := .d (.v (.int .u8 (bt s i))) }
      | _ => none
    | none => none
  | _, _ => none
def effLen (P : Program) (t : Nat) (a : AV) : Option Eff :=
  match ti P t with
  | some T => match T.d, a with
    | .str, .d (.v (.string s)) => some { sc := True, val := .d (.v (.int .i64 s.size)) }
    | .slice _, .d (.sl _ xs) => some { sc := True, val := .d (.v (.int .i64 xs.length)) }
    | .slice _, .d (.v (.slice none 0 0)) => some { sc := True, val := .d (.v (.int .i64 0)) }
    | .slice _, .row _ n => some { sc := True, val := .d (.v (.int .i64 n)) }
    | .array n _, _ => some { sc := True, val := .d (.v (.int .i64 n)) }
    | _, _ => none
  | none => none
def effExtract (i : Nat) : AV → Option Eff
  | .tup cs => if i < cs.length then some { sc := True, val := cs.getD i .bad } else none
  | _ => none
/-- A bound of a cut: none stands for the other. -/
def bnd : Option AV → Int → Option Int
  | none, n => some n
  | some (.d (.v (.int _ i))), _ => some i
  | _, _ => none
/-- The cells of a variable, where all of them are read for good. -/
def dats : List AV → Option (List Dat)
  | [] => some []
  | .d x :: l => (dats l).map (x :: ·)
  | _ => none
def effSlice (P : Program) (h : Nat → Option AObj) (d : Nat) (t : Nat) (x : AV) (lo hi : Option AV) : Option Eff :=
  match x with
  | .d (.v (.string s)) => match ti P t, bnd lo 0, bnd hi s.size with
    | some T, some l, some r => match T.d with
      | .str => some { sc := 0 ≤ l ∧ l ≤ r ∧ r ≤ s.size, val := .d (.v (.string (s.extract l.toNat r.toNat))) }
      | _ => none
    | _, _, _ => none
  | .d (.sl sz xs) => match sliceOf P t, bnd lo 0, bnd hi xs.length with
    | some (_, E), some l, some r => if sz = E.sz then some { sc := 0 ≤ l ∧ l ≤ r ∧ r ≤ xs.length, val := .d (.sl sz ((xs.drop l.toNat).take (r.toNat - l.toNat))) } else none
    | _, _, _ => none
  | .row o n => match sliceOf P t, bnd lo 0, bnd hi n, h o with
    | some (_, E), some l, some r, some (.row e s xs) => if s = E.sz then
        (match lo with
          | none => if o = d then none else some { sc := 0 ≤ r ∧ r ≤ xs.length, val := .row d r.toNat, up := [(d, some (.row e s (xs.take r.toNat))), (o, none)], new := true }
          | some _ => some { sc := 0 ≤ l ∧ l ≤ r ∧ r ≤ xs.length, val := .d (.sl s ((xs.drop l.toNat).take (r.toNat - l.toNat))), up := [(o, none)] }) else none
    | _, _, _, _ => none
  | .ptr o 0 => match ti P t, h o with
    | some T, some (.cells _ cs) => match T.d, dats cs with
      | .array n e, some ds => match ti P e, bnd lo 0, bnd hi n with
        | some E, some l, some r => if E.sz = 1 ∧ ds.length = n then some { sc := 0 ≤ l ∧ l ≤ r ∧ r ≤ n, val := .d (.sl 1 (((ds.map fun x => [x]).drop l.toNat).take (r.toNat - l.toNat))), up := [(o, none)] } else none
        | _, _, _ => none
      | _, _ => none
    | _, _ => none
  | _ => none

theorem fieldOf_info {P : Program} {s f q : Nat} {T : Ti} (h : fieldOf P s f = some (q, T)) : ∃ fs : Array Field, ∃ F, P.underlying s = some (.struct fs) ∧ fs[f]? = some F ∧ F.offset = q ∧ ti P F.type = some T := by
  unfold fieldOf at h
  split at h
  · rename_i T0 h0
    split at h
    · rename_i fs hd
      split at h
      · rename_i p hp
        split at h
        · rename_i T' hT'
          cases h
          obtain ⟨i, dd, z, _, h2, h3, _⟩ := ti_info h0
          rw [hd] at h3
          cases dd <;> simp [tyd] at h3
          rename_i fields
          subst h3
          rw [List.getElem?_map] at hp
          cases hF : fields[f]? with
          | none => rw [Array.getElem?_toList, hF] at hp; cases hp
          | some F => rw [Array.getElem?_toList, hF] at hp; cases hp; exact ⟨fields, F, h2, hF, rfl, hT'⟩
        · cases h
      · cases h
    · cases h
  · cases h
theorem sliceOf_info {P : Program} {t e : Nat} {E : Ti} (h : sliceOf P t = some (e, E)) : P.underlying t = some (.slice e) ∧ ti P e = some E := by
  unfold sliceOf at h
  split at h
  · rename_i T0 h0
    split at h
    · rename_i e' hd
      split at h
      · rename_i T' hT'
        cases h
        obtain ⟨i, dd, z, _, h2, h3, _⟩ := ti_info h0
        rw [hd] at h3
        cases dd <;> simp [tyd] at h3
        subst h3
        exact ⟨h2, hT'⟩
      · cases h
    · cases h
  · cases h
theorem tyd_inv {P : Program} {t : Nat} {T : Ti} (h : ti P t = some T) : ∃ d, P.underlying t = some d ∧ tyd d = T.d := by
  obtain ⟨i, dd, z, _, h2, h3, _⟩ := ti_info h
  exact ⟨dd, h2, h3⟩
theorem tyd_str {d : TypeDesc} (h : tyd d = .str) : d = .string := by cases d <;> simp [tyd] at h; rfl
theorem tyd_slice {d : TypeDesc} {e : Nat} (h : tyd d = .slice e) : d = .slice e := by cases d <;> simp [tyd] at h; rw [h]
theorem tyd_array {d : TypeDesc} {n e : Nat} (h : tyd d = .array n e) : d = .array n e := by cases d <;> simp [tyd] at h; rw [h.1, h.2]
section
variable {P : Program} {C : Ctx} {m : Nat → Value} {w : World} {hp : Hp} {d : Nat} {sc : Prop}
theorem effFieldAddr_ok (I : Inv C m w hp) {s f : Nat} {a : AV} {u : Value} {e : Eff} (he : effFieldAddr P s f a = some e) (hv : Val w (im C m w hp) m u a) : Ok C m w hp d e ((Instr.fieldAt s u f).run P w) := by
  unfold effFieldAddr at he
  split at he
  · rename_i q T hf
    obtain ⟨fs, F, h1, h2, h3, h4⟩ := fieldOf_info hf
    split at he
    · cases he
    rename_i hz
    have run : ∀ a0 : Addr, (Instr.fieldAt s (.pointer (some a0)) f).run P w = .ok (.pointer (some (a0.add q))) w := fun a0 => by
      simp [Instr.fieldAt, run_underlying h1, h2, Instr.sureAddr, fieldPlace, run_sizeOf h4, hz, h3]
    cases hv with
    | ptr hm => cases he; rw [run, addr_eta _ rfl]; exact Ok.same I (.ptr hm)
    | @ep a cs off vs hs hi hw hr => cases he; rw [run, add_add _ hs]; exact Ok.same I (.ep vs hs hi hw hr)
    | rp hm => cases he; rw [run, addr_eta _ rfl, Nat.add_assoc]; exact Ok.same I (.rp hm)
    | _ => cases he
  · cases he
theorem val_seg {im : Nat → Prop} {us : Array Value} {cs : List AV} {q n : Nat} (hn : us.size = cs.length) (h : ∀ (i : Nat) (u : Value) (c : AV), us[i]? = some u → cs[i]? = some c → Val w im m u c) (hq : q + n ≤ cs.length) :
    Val w im m (.agg (us.extract q (q + n))) (.agg (seg (fun j => cs.getD j .bad) q n)) := by
  refine .agg (by rw [seg_length, Array.size_extract]; omega) fun i u c h6 h7 => ?_
  have hi : i < n := by have := (List.getElem?_eq_some_iff.1 h7).1; rwa [seg_length] at this
  rw [seg_get _ _ _ _ hi] at h7
  cases h7
  rw [Array.getElem?_extract] at h6
  split at h6
  · exact h _ _ _ h6 (get_getD _ (by omega))
  · cases h6
theorem effField_ok (I : Inv C m w hp) {s f : Nat} {a : AV} {u : Value} {e : Eff} (he : effField P s f a = some e) (hv : Val w (im C m w hp) m u a) : Ok C m w hp d e ((Instr.field s u f).run P w) := by
  unfold effField at he
  split at he
  · rename_i q T hf
    obtain ⟨fs, F, h1, h2, h3, h4⟩ := fieldOf_info hf
    cases hv with
    | @agg us cs hn h =>
      simp only at he
      split at he
      · rename_i ha
        split at he
        · rename_i hle
          cases he
          simp only [Instr.field, Sem.run_bind, run_underlying h1, Result.andThen_ok, h2, asAgg, Sem.run_pure, part, run_isAgg h4, ha, if_true, run_sizeOf h4, h3]
          exact Ok.same I (val_seg hn h hle)
        · cases he
      · rename_i ha
        split at he
        · rename_i hlt
          cases he
          have hq : us[q]? = some (us.getD q default) := by simp [hn, hlt]
          simp only [Instr.field, Sem.run_bind, run_underlying h1, Result.andThen_ok, h2, asAgg, Sem.run_pure, part, run_isAgg h4, ha, Bool.false_eq_true, if_false, h3, hq]
          exact Ok.same I (h q _ _ hq (get_getD _ hlt))
        · cases he
    | _ => cases he
  · cases he
theorem effIndexAddr_ok (I : Inv C m w hp) {t : Nat} {x i : AV} {ux ui : Value} {e : Eff} (he : effIndexAddr P hp.get t x i = some e) (hs : e.sc) (hx : Val w (im C m w hp) m ux x) (hi : Val w (im C m w hp) m ui i) :
    Ok C m w hp d e ((Instr.indexAt t ux ui).run P w) := by
  unfold effIndexAddr at he
  split at he
  · rename_i sz xs k n
    split at he
    · rename_i e0 E hE
      obtain ⟨h1, h2⟩ := sliceOf_info hE
      split at he
      · rename_i hsz
        cases he
        obtain ⟨s1, s2⟩ := hs
        cases hi with
        | d hi =>
        cases hi
        cases hx with
        | d hx =>
        cases hx with
        | nil => simp at s2; omega
        | @sl a len cap _ _ vs ha hl hc him hz hw hr =>
          have hlt : n.toNat < xs.length := by omega
          have hne : xs ≠ [] := by rintro rfl; simp at hlt
          have hrow := get_getD (E.z.map .v) hlt
          replace ha := ha hne
          simp only [Instr.indexAt, asIntOf, Sem.run_bind, Sem.run_pure, Result.andThen_ok, run_underlying h1]
          rw [if_pos ⟨s1, by rw [hl]; exact s2⟩]
          simp only [Sem.run_bind, run_sizeOf h2, Result.andThen_ok, Sem.run_pure]
          have := Val.ep (w := w) (im := im C m w hp) (m := m) (a := a.add (n.toNat * E.sz)) (cs := xs.getD n.toNat (E.z.map .v)) (off := 0) (fun j => vs n.toNat j) (add_spot a ha _) (fun _ => by rw [add_block]; exact him hne)
            (fun j x hj => by rw [add_add a ha, ← hsz]; exact hw _ j _ x hrow hj) (fun j x hj => hr _ j _ x hrow hj)
          rw [add_add a ha, Nat.add_zero] at this
          exact Ok.same I this
      · cases he
    · cases he
  · rename_i o n k i
    split at he
    · rename_i e0 E e1 s1 xs hE ho
      obtain ⟨h1, h2⟩ := sliceOf_info hE
      cases he
      obtain ⟨g1, g2⟩ := hs
      cases hi with
      | d hi =>
      cases hi
      cases hx with
      | @row _ _ cap a hm =>
        obtain ⟨us, q1, _⟩ := I.live o _ ho
        rw [hm] at q1
        rcases q1.2 with ⟨e, _⟩ | ⟨g, cap', cur, e, _⟩
        · cases e; omega
        cases e
        simp only [Instr.indexAt, asIntOf, Sem.run_bind, Sem.run_pure, Result.andThen_ok, run_underlying h1]
        rw [if_pos ⟨g1, g2⟩]
        simp only [Sem.run_bind, run_sizeOf h2, Result.andThen_ok, Sem.run_pure]
        rw [addr_eta _ rfl, Nat.zero_add]
        exact Ok.same I (.rp (off := 0) hm)
    · cases he
  · rename_i o off k i
    split at he
    · rename_i T hT
      split at he
      · rename_i n e0 hd
        split at he
        · rename_i E hE
          cases he
          obtain ⟨g1, g2⟩ := hs
          obtain ⟨dd, h1, h2⟩ := tyd_inv hT
          have h3 := tyd_array (h2.trans hd)
          subst h3
          cases hi with
          | d hi =>
          cases hi
          cases hx with
          | ptr hm =>
            simp only [Instr.indexAt, asIntOf, Sem.run_bind, Sem.run_pure, Result.andThen_ok, run_underlying h1, Instr.sureAddr]
            rw [if_pos ⟨g1, g2⟩]
            simp only [Sem.run_bind, run_sizeOf hE, Result.andThen_ok, Sem.run_pure]
            rw [addr_eta _ rfl]
            exact Ok.same I (.ptr hm)
        · cases he
      · cases he
    · cases he
  · rename_i cs off k i
    split at he
    · rename_i T hT
      split at he
      · rename_i n e0 hd
        split at he
        · rename_i E hE
          cases he
          obtain ⟨g1, g2⟩ := hs
          obtain ⟨dd, h1, h2⟩ := tyd_inv hT
          have h3 := tyd_array (h2.trans hd)
          subst h3
          cases hi with
          | d hi =>
          cases hi
          cases hx with
          | @ep a cs off vs ha hi hw hr =>
            simp only [Instr.indexAt, asIntOf, Sem.run_bind, Sem.run_pure, Result.andThen_ok, run_underlying h1, Instr.sureAddr]
            rw [if_pos ⟨g1, g2⟩]
            simp only [Sem.run_bind, run_sizeOf hE, Result.andThen_ok, Sem.run_pure]
            rw [add_add a ha]
            exact Ok.same I (.ep vs ha hi hw hr)
        · cases he
      · cases he
    · cases he
  · rename_i o sz j off k i
    split at he
    · rename_i T hT
      split at he
      · rename_i n e0 hd
        split at he
        · rename_i E hE
          cases he
          obtain ⟨g1, g2⟩ := hs
          obtain ⟨dd, h1, h2⟩ := tyd_inv hT
          have h3 := tyd_array (h2.trans hd)
          subst h3
          cases hi with
          | d hi =>
          cases hi
          cases hx with
          | rp hm =>
            simp only [Instr.indexAt, asIntOf, Sem.run_bind, Sem.run_pure, Result.andThen_ok, run_underlying h1, Instr.sureAddr]
            rw [if_pos ⟨g1, g2⟩]
            simp only [Sem.run_bind, run_sizeOf hE, Result.andThen_ok, Sem.run_pure]
            rw [addr_eta _ rfl, Nat.add_assoc]
            exact Ok.same I (.rp hm)
        · cases he
      · cases he
    · cases he
  · cases he
theorem effIndex_ok (I : Inv C m w hp) {t : Nat} {x i : AV} {ux ui : Value} {e : Eff} (he : effIndex P t x i = some e) (hs : e.sc) (hx : Val w (im C m w hp) m ux x) (hi : Val w (im C m w hp) m ui i) :
    Ok C m w hp d e ((Instr.index t ux ui).run P w) := by
  unfold effIndex at he
  split at he
  · rename_i s k i
    split at he
    · rename_i T hT
      split at he
      · rename_i hd
        cases he
        obtain ⟨g1, g2⟩ := hs
        obtain ⟨dd, h1, h2⟩ := tyd_inv hT
        have h3 := tyd_str (h2.trans hd)
        subst h3
        cases hi with
        | d hi =>
        cases hi
        cases hx with
        | d hx =>
        cases hx
        have hlt : i.toNat < s.size := by omega
        have hb : s[i.toNat]? = some (s.data.toList.getD i.toNat 0) := by
          have : i.toNat < s.data.size := hlt
          rw [getElem?_pos s i.toNat hlt]
          simp only [List.getD_eq_getElem?_getD, Array.getElem?_toList, Array.getElem?_eq_getElem this, Option.getD_some]
          rfl
        simp only [Instr.index, asIntOf, Sem.run_bind, Sem.run_pure, Result.andThen_ok, run_underlying h1]
        rw [if_pos g1, hb]
        exact Ok.same I (.d (.v rfl))
      · cases he
    · cases he
  · cases he
theorem effLen_ok (I : Inv C m w hp) {t ty : Nat} {x : AV} {u : Value} {e : Eff} (he : effLen P t x = some e) (hx : Val w (im C m w hp) m u x) : Ok C m w hp d e ((Builtin.len_ #[t] ty #[u]).run P w) := by
  unfold effLen at he
  split at he
  · rename_i T hT
    obtain ⟨dd, h1, h2⟩ := tyd_inv hT
    split at he
    · rename_i s hd
      have h3 := tyd_str (h2.trans hd)
      subst h3
      cases he
      cases hx with | d hx => cases hx; simp [Builtin.len_, run_underlying h1, goInt]; exact Ok.same I (.d (.v rfl))
    · rename_i e0 sz xs hd
      have h3 := tyd_slice (h2.trans hd)
      subst h3
      cases he
      cases hx with
      | d hx =>
      cases hx with
      | nil => simp [Builtin.len_, run_underlying h1, goInt]; exact Ok.same I (.d (.v rfl))
      | sl vs ha hl => simp [Builtin.len_, run_underlying h1, goInt, hl]; exact Ok.same I (.d (.v rfl))
    · rename_i e0 hd
      have h3 := tyd_slice (h2.trans hd)
      subst h3
      cases he
      cases hx with | d hx => cases hx; simp [Builtin.len_, run_underlying h1, goInt]; exact Ok.same I (.d (.v rfl))
    · rename_i e0 o n hd
      have h3 := tyd_slice (h2.trans hd)
      subst h3
      cases he
      cases hx with | row hm => simp [Builtin.len_, run_underlying h1, goInt]; exact Ok.same I (.d (.v rfl))
    · rename_i n e0 hd
      have h3 := tyd_array (h2.trans hd)
      subst h3
      cases he
      simp [Builtin.len_, run_underlying h1, goInt]; exact Ok.same I (.d (.v rfl))
    · cases he
  · cases he
theorem effExtract_ok (I : Inv C m w hp) {i : Nat} {x : AV} {u : Value} {e : Eff} (he : effExtract i x = some e) (hx : Val w (im C m w hp) m u x) : Ok C m w hp d e ((Instr.extract u i).run P w) := by
  unfold effExtract at he
  cases hx with
  | @tup us cs hn h =>
    simp only at he
    split at he
    · rename_i hlt
      cases he
      have hq : us[i]? = some (us.getD i default) := by simp [hn, hlt]
      simp only [Instr.extract, hq, Sem.run_pure]
      exact Ok.same I (h i _ _ hq (get_getD _ hlt))
    · cases he
  | _ => simp at he
def OptVal (w : World) (im : Nat → Prop) (m : Nat → Value) : Option Value → Option AV → Prop
  | none, none => True
  | some u, some c => Val w im m u c
  | _, _ => False
theorem run_bounds {imp : Nat → Prop} {lo hi : Option AV} {ulo uhi : Option Value} {l r : Int} {n cap : Nat} {b : Bool} (hlo : OptVal w imp m ulo lo) (hhi : OptVal w imp m uhi hi) (hl : bnd lo 0 = some l) (hr : bnd hi n = some r)
    (h0 : 0 ≤ l) (h1 : l ≤ r) (h2 : r ≤ n) (hc : n ≤ cap) : (Instr.sliceBounds b n cap ulo uhi none).run P w = .ok (l.toNat, r.toNat, cap) w := by
  have hiR : ∀ code, (match uhi with | some v => Instr.sliceBound v cap code | none => pure n : Sem Nat).run P w = .ok r.toNat w := fun code => by
    cases hi with
    | none =>
      cases uhi with
      | none => simp only [bnd, Option.some.injEq] at hr; subst hr; simp
      | some v => exact hhi.elim
    | some c =>
      cases uhi with
      | none => exact hhi.elim
      | some v =>
        unfold bnd at hr
        split at hr
        · rename_i q; cases q
        · rename_i k i q
          cases q
          cases hr
          have hv : Val w imp m v (.d (.v (.int k r))) := hhi
          cases hv with | d hv => cases hv; simp only [Instr.sliceBound, asIntOf, Sem.run_bind, Sem.run_pure, Result.andThen_ok]; rw [if_pos ⟨by omega, by omega⟩]; rfl
        · cases hr
  have loR : (match ulo with | some v => Instr.sliceBound v r.toNat .sliceB | none => pure 0 : Sem Nat).run P w = .ok l.toNat w := by
    cases lo with
    | none =>
      cases ulo with
      | none => simp only [bnd, Option.some.injEq] at hl; subst hl; simp
      | some v => exact hlo.elim
    | some c =>
      cases ulo with
      | none => exact hlo.elim
      | some v =>
        unfold bnd at hl
        split at hl
        · rename_i q; cases q
        · rename_i k i q
          cases q
          cases hl
          have hv : Val w imp m v (.d (.v (.int k l))) := hlo
          cases hv with | d hv => cases hv; simp only [Instr.sliceBound, asIntOf, Sem.run_bind, Sem.run_pure, Result.andThen_ok]; rw [if_pos ⟨by omega, by omega⟩]; rfl
        · cases hl
  have hiR' := hiR (if b = true then .sliceAcap else .sliceAlen)
  cases uhi <;> cases ulo <;> simp_all [Instr.sliceBounds]
theorem rd_cut {imp : Nat → Prop} {u : Value} {sz : Nat} {xs : List (List Dat)} (h : Rd w imp u (.sl sz xs)) : ∃ a len cap, u = .slice a len cap ∧ len = xs.length ∧ len ≤ cap ∧
    ∀ l r, l ≤ r → r ≤ xs.length → Rd w imp (.slice (if cap = l then a else a.map (·.add (l * sz))) (r - l) (cap - l)) (.sl sz ((xs.drop l).take (r - l))) := by
  cases h with
  | nil => exact ⟨none, 0, 0, rfl, rfl, Nat.le_refl _, fun l r h1 h2 => by
      have e1 : r = 0 := by simpa using h2
      have e2 : l = 0 := by omega
      subst e1 e2
      exact .nil sz⟩
  | @sl a len cap _ _ vs hs hl hc hi hz hw hr =>
    refine ⟨some a, len, cap, rfl, hl, hc, fun l r h1 h2 => ?_⟩
    have hlen : ((xs.drop l).take (r - l)).length = r - l := by rw [List.length_take, List.length_drop]; omega
    have hg : ∀ i row, ((xs.drop l).take (r - l))[i]? = some row → xs[l + i]? = some row := fun i row h => by
      rw [List.getElem?_take] at h
      split at h
      · rwa [List.getElem?_drop] at h
      · cases h
    by_cases e : cap = l
    · rw [if_pos e]
      have e2 : r - l = 0 := by omega
      rw [e2, List.take_zero]
      exact .sl vs (fun h => absurd rfl h) (by simp) (by omega) (fun h => absurd rfl h) (fun i r h => by simp at h) (fun i j r x h => by simp at h) (fun i j r x h => by simp at h)
    · rw [if_neg e, Option.map_some]
      have ne : ((xs.drop l).take (r - l)) ≠ [] → xs ≠ [] := fun h q => h (by rw [q]; simp)
      refine .sl (fun i j => vs (l + i) j) (fun h => add_spot a (hs (ne h)) _) hlen.symm (by omega) (fun h => ?_) (fun i r h => hz _ _ (hg i r h)) (fun i j r x h k => ?_) (fun i j r x h k => hr _ _ _ _ (hg i r h) k)
      · rw [add_block]
        exact hi (fun q => h (by rw [q]; simp))
      · rw [add_add a (hs (List.ne_nil_of_mem (List.mem_of_getElem? (hg i r h)))), ← Nat.add_assoc, ← Nat.add_mul]
        exact hw _ _ _ _ (hg i r h) k
theorem dats_get : ∀ {cs : List AV} {ds : List Dat}, dats cs = some ds → cs = ds.map .d
  | [], _, h => by cases h; rfl
  | .d x :: l, ds, h => by
    simp only [dats] at h
    cases hl : dats l with
    | none => rw [hl] at h; cases h
    | some ys => rw [hl] at h; cases h; simp [dats_get hl]
  | .agg _ :: _, _, h => by cases h
  | .ptr _ _ :: _, _, h => by cases h
  | .ep _ _ :: _, _, h => by cases h
  | .row _ _ :: _, _, h => by cases h
  | .rp _ _ _ _ :: _, _, h => by cases h
  | .fn _ _ :: _, _, h => by cases h
  | .tup _ :: _, _, h => by cases h
  | .gd _ _ :: _, _, h => by cases h
  | .bad :: _, _, h => by cases h
theorem cells_rd (I : Inv C m w hp) {o e b : Nat} {ds : List Dat} (hm : m o = .pointer (some ⟨b, 0, none⟩)) (ho : hp.get o = some (.cells e (ds.map .d))) {hp1 : Hp} (hsub : ∀ o obj, hp1.get o = some obj → hp.get o = some obj) (hno : hp1.get o = none) :
    Rd w (im C m w hp1) (.slice (some ⟨b, 0, none⟩) ds.length ds.length) (.sl 1 (ds.map fun x => [x])) := by
  obtain ⟨b', us, h1, h2, h3, h4, _⟩ := I.live o _ ho
  rw [hm] at h1
  cases h1
  have k := (I.drop hsub).2
  have hg : blk (m o) = some b := by rw [hm]; rfl
  rw [List.length_map] at h3
  have hcell : ∀ (i j : Nat) (r : List Dat) (x : Dat), (ds.map fun x => [x])[i]? = some r → r[j]? = some x → ds[i]? = some x ∧ j = 0 := fun i j r x q1 q2 => by
    rw [List.getElem?_map] at q1
    cases hx : ds[i]? with
    | none => rw [hx] at q1; cases q1
    | some y =>
      rw [hx] at q1
      cases q1
      cases j with
      | zero => cases q2; exact ⟨rfl, rfl⟩
      | succ j => simp at q2
  refine .sl (fun i j => us.getD i default) (fun _ => rfl) (by simp) (Nat.le_refl _) (fun _ => ⟨(Array.getElem?_eq_some_iff.1 h2).1, ?_, fun o' x ho' e => ?_⟩) (fun i r q => ?_) (fun i j r x q1 q2 => ?_) (fun i j r x q1 q2 => ?_)
  · rcases I.own o _ b ho hg with h | h <;> simp [h]
  · have hne : o ≠ o' := fun q => by subst q; rw [hno] at ho'; cases ho'
    exact I.sep o o' _ x b ho (hsub o' x ho') hne hg e
  · rw [List.getElem?_map] at q
    cases hx : ds[i]? with
    | none => rw [hx] at q; cases q
    | some y => rw [hx] at q; cases q; rfl
  · obtain ⟨hx, rfl⟩ := hcell i j r x q1 q2
    have hi : i < us.size := by have := (List.getElem?_eq_some_iff.1 hx).1; omega
    rw [addr_eta _ rfl]
    simp [World.cell?, h2, hi]
  · obtain ⟨hx, rfl⟩ := hcell i j r x q1 q2
    have hi : i < us.size := by have := (List.getElem?_eq_some_iff.1 hx).1; omega
    have hv := h4 i (us.getD i default) (.d x) (by simp [hi]) (by rw [List.getElem?_map, hx]; rfl)
    show Rd w _ (us.getD i default) x
    generalize us.getD i default = uu at hv
    cases hv with
    | d hv => exact hv.mono k
theorem effSlice_ok (I : Inv C m w hp) {t : Nat} {x : AV} {lo hi : Option AV} {u : Value} {ulo uhi : Option Value} {e : Eff} (he : effSlice P hp.get d t x lo hi = some e) (hs : e.sc) (hf : e.new = true → Fr hp d)
    (hx : Val w (im C m w hp) m u x) (hlo : OptVal w (im C m w hp) m ulo lo) (hhi : OptVal w (im C m w hp) m uhi hi) : Ok C m w hp d e ((Instr.sliceAt t u ulo uhi none).run P w) := by
  unfold effSlice at he
  split at he
  · rename_i s
    split at he
    · rename_i T l r hT hl hr
      split at he
      · rename_i hd
        cases he
        obtain ⟨g0, g1, g2⟩ := hs
        obtain ⟨dd, h1, h2⟩ := tyd_inv hT
        have h3 := tyd_str (h2.trans hd)
        subst h3
        cases hx with
        | d hx =>
        cases hx
        simp only [Instr.sliceAt, Instr.slice, Sem.run_bind, Sem.run_pure, Result.andThen_ok, run_underlying h1, Option.isSome_none, Bool.false_eq_true, if_false, run_bounds (P := P) (b := false) hlo hhi hl hr g0 g1 g2 (Nat.le_refl _)]
        exact Ok.same I (.d (.v rfl))
      · cases he
    · cases he
  · rename_i sz xs
    split at he
    · rename_i e0 E l r hE hl hr
      obtain ⟨h1, h2⟩ := sliceOf_info hE
      split at he
      · rename_i hsz
        cases he
        obtain ⟨g0, g1, g2⟩ := hs
        cases hx with
        | d hx =>
        obtain ⟨a, len, cap, rfl, rfl, hc, hcut⟩ := rd_cut hx
        simp only [Instr.sliceAt, Instr.slice, Sem.run_bind, Sem.run_pure, Result.andThen_ok, run_underlying h1, run_bounds (P := P) (b := true) hlo hhi hl hr g0 g1 g2 hc, run_sizeOf h2]
        rw [← hsz]
        exact Ok.same I (.d (hcut _ _ (by omega) (by omega)))
      · cases he
    · cases he
  · rename_i o n
    split at he
    · rename_i e0 E l r e1 s1 xs hE hl hr ho
      obtain ⟨h1, h2⟩ := sliceOf_info hE
      split at he
      · rename_i hsz
        cases hx with
        | @row _ _ cap a hm =>
        obtain ⟨us, ⟨q0, q1⟩, q2, q3⟩ := I.live o _ ho
        have hlen : n = xs.length ∧ n ≤ cap := by
          rw [hm] at q1
          rcases q1 with ⟨e, h0⟩ | ⟨g, cap', cur, e, _, _, hle, _⟩
          · cases e; omega
          · cases e; omega
        obtain ⟨rfl, hcap⟩ := hlen
        have run : ∀ (g0 : 0 ≤ l) (g1 : l ≤ r) (g2 : r ≤ (xs.length : Int)), (Instr.sliceAt t (.slice a xs.length cap) ulo uhi none).run P w = .ok (.slice (if cap = l.toNat then a else a.map (·.add (l.toNat * E.sz))) (r.toNat - l.toNat) (cap - l.toNat)) w := fun g0 g1 g2 => by
          simp only [Instr.sliceAt, Instr.slice, Sem.run_bind, Sem.run_pure, Result.andThen_ok, run_underlying h1, run_bounds (P := P) (b := true) hlo hhi hl hr g0 g1 g2 hcap, run_sizeOf h2]
        split at he
        · split at he
          · cases he
          rename_i hod
          cases he
          obtain ⟨g0, g2⟩ := hs
          cases hl
          have hf := hf rfl
          rw [run (by omega) g0 g2]
          have hbase : (if cap = (0 : Int).toNat then a else a.map (·.add ((0 : Int).toNat * E.sz))) = a := by
            simp only [Int.toNat_zero, Nat.zero_mul]
            split
            · rfl
            · cases a <;> simp [Addr.add]
          rw [hbase]
          simp only [Int.toNat_zero, Nat.sub_zero]
          let m' : Nat → Value := fun o => if o = d then .slice a r.toNat cap else m o
          have md : m' d = .slice a r.toNat cap := if_pos rfl
          have mo : ∀ o, o ≠ d → m' o = m o := fun o h => if_neg h
          have hb : blk (m' d) = blk (m o) := by rw [md, hm]; cases a <;> rfl
          have hsub : ∀ o' obj, Hp.get ((o, none) :: hp) o' = some obj → hp.get o' = some obj := fun o' obj h => by
            rw [Hp.get_cons] at h
            split at h
            · cases h
            · exact h
          obtain ⟨I', k⟩ := I.put (m' := m') (w' := w) (hp1 := (o, none) :: hp) hsub d (.row e1 s1 (xs.take r.toNat)) mo (.inr fun o' x' h' _ => (hf o' x' (hsub o' x' h')).2) rfl rfl rfl (Nat.le_refl _) (fun _ _ _ => rfl)
            (fun b hb' => by
              rw [hb] at hb'
              refine ⟨I.own o _ b ho hb', I.not_im ho hb', fun o' x' ho' _ e => ?_⟩
              have hne : o ≠ o' := fun q => by subst q; rw [Hp.get_cons, if_pos rfl] at ho'; cases ho'
              exact I.sep o o' _ x' b ho (hsub o' x' ho') hne hb' e)
            (fun im' hk => by
              have htk : (xs.take r.toNat).length = r.toNat := by rw [List.length_take]; omega
              have hmul : r.toNat * s1 ≤ xs.length * s1 := Nat.mul_le_mul_right _ (by omega)
              refine ⟨us.take (r.toNat * s1), ⟨by rw [List.length_take, htk, q0]; omega, ?_⟩, fun i row h => q2 i row ?_, fun i j row x h1 h2 => ?_⟩
              · rw [htk]
                rw [hm] at q1
                rcases q1 with ⟨e, h0⟩ | ⟨g, cap', cur, e, p1, p2, p3, p4, p5, p6⟩
                · injection e with e1 e2 e3
                  refine .inl ⟨?_, by omega⟩
                  rw [md, e1, e3]; congr; omega
                · cases e
                  refine .inr ⟨g, cap, cur, md, p1, p2, by omega, p4, p5, ?_⟩
                  rw [← p6, List.take_take, Nat.min_eq_left hmul]
              · rw [List.getElem?_take] at h
                split at h
                · exact h
                · cases h
              · have hi : i < r.toNat := by
                  rw [List.getElem?_take] at h1
                  split at h1
                  · assumption
                  · cases h1
                have h1' : xs[i]? = some row := by rwa [List.getElem?_take, if_pos hi] at h1
                have hj : j < s1 := by rw [← q2 i row h1']; exact (List.getElem?_eq_some_iff.1 h2).1
                have hm2 : (i + 1) * s1 ≤ r.toNat * s1 := Nat.mul_le_mul_right _ hi
                rw [Nat.add_mul, Nat.one_mul] at hm2
                obtain ⟨u', q4, q5⟩ := q3 i j row x h1' h2
                exact ⟨u', by rw [List.getElem?_take, if_pos (by omega)]; exact q4, q5.mono hk⟩)
          exact ⟨_, w, m', rfl, fun o h => mo o (h rfl), I', .row md, k⟩
        · cases he
          obtain ⟨g0, g1, g2⟩ := hs
          have hsub : ∀ o' obj, Hp.get ((o, none) :: hp) o' = some obj → hp.get o' = some obj := fun o' obj h => by
            rw [Hp.get_cons] at h
            split at h
            · cases h
            · exact h
          have hrd := row_rd I ho hsub (by rw [Hp.get_cons, if_pos rfl])
          rw [hm] at hrd
          obtain ⟨a', len', cap', e', _, _, hcut⟩ := rd_cut hrd
          cases e'
          rw [run g0 g1 g2, ← hsz]
          obtain ⟨I', k⟩ := I.drop hsub
          exact ⟨_, w, m, rfl, fun _ _ => rfl, I', .d (hcut _ _ (by omega) (by omega)), k⟩
      · cases he
    · cases he
  · rename_i o
    split at he
    · rename_i T e1 cs hT ho
      split at he
      · rename_i n e0 ds hd hds
        split at he
        · rename_i E l r hE hl hr
          split at he
          · rename_i hsz
            cases he
            obtain ⟨g0, g1, g2⟩ := hs
            obtain ⟨dd, h1, h2⟩ := tyd_inv hT
            have h3 := tyd_array (h2.trans hd)
            subst h3
            have hcs := dats_get hds
            subst hcs
            cases hx with
            | @ptr _ _ b hm =>
            have hsub : ∀ o' obj, Hp.get ((o, none) :: hp) o' = some obj → hp.get o' = some obj := fun o' obj h => by
              rw [Hp.get_cons] at h
              split at h
              · cases h
              · exact h
            have hrd := cells_rd I hm ho hsub (by rw [Hp.get_cons, if_pos rfl])
            obtain ⟨a', len', cap', e', _, _, hcut⟩ := rd_cut hrd
            cases e'
            have hcut := hcut l.toNat r.toNat (by omega) (by rw [List.length_map, hsz.2]; omega)
            simp only [Instr.sliceAt, Sem.run_bind, Sem.run_pure, Result.andThen_ok, run_underlying h1, Instr.sureAddr, run_bounds (P := P) (b := false) hlo hhi hl hr g0 g1 g2 (Nat.le_refl _), run_sizeOf hE, hsz.1]
            rw [hsz.2] at hcut
            obtain ⟨I', k⟩ := I.drop hsub
            refine ⟨_, w, m, rfl, fun _ _ => rfl, I', .d ?_, k⟩
            split at hcut
            · rename_i q; rw [if_pos q]; exact hcut
            · rename_i q; rw [if_neg q]; exact hcut
          · cases he
        · cases he
      · cases he
    · cases he
  · cases he
end
end Go.Proofs.Ytlhhibhcoefolaa.Eng
