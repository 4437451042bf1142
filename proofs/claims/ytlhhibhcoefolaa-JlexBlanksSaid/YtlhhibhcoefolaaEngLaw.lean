/- What came in, as data: an argument that can be read is read for good; and a law's call on the small machine is the law's call. -/
import Derived.Test.YtlhhibhcoefolaaEngEv
import Derived.ChangeArms
import Derived.DataReads
import Derived.Below
namespace Go.Proofs.Ytlhhibhcoefolaa.Eng
open Go Go.RowKit
/-- Each cell reads so, wherever it stands. -/
def RdL (W : World) (cs : List Value) (xs : List Dat) : Prop := cs.length = xs.length ∧ ∀ (i : Nat) (u : Value) (x : Dat), cs[i]? = some u → xs[i]? = some x → Rd W (fun b => b < W.heap.size) u x
/- How much data there is: values, and letters. -/
mutual
def datB : Dat → Nat
  | .v (.string s) => s.size + 1
  | .v _ => 1
  | .sl _ xs => rowsB xs + 1
def rowsB : List (List Dat) → Nat
  | [] => 0
  | r :: xs => cellsB r + rowsB xs
def cellsB : List Dat → Nat
  | [] => 0
  | c :: r => datB c + cellsB r
end
mutual
def dwB {H : Type} : DataW H → Nat
  | .lit (.string b) => b.length + 1
  | .slice l _ => dwBs l + 1
  | .agg l => dwBs l + 1
  | _ => 1
def dwBs {H : Type} : List (DataW H) → Nat
  | [] => 0
  | d :: l => dwB d + dwBs l
end
theorem cellsB_app : ∀ a b : List Dat, cellsB (a ++ b) = cellsB a + cellsB b
  | [], b => by simp [cellsB]
  | c :: a, b => by simp only [List.cons_append, cellsB, cellsB_app a b]; omega
theorem rowsB_le {H : Type} : ∀ (xs : List (List Dat)) (ds : List (DataW H)), (∀ (i : Nat) (r : List Dat), xs[i]? = some r → ∃ d, ds[i]? = some d ∧ cellsB r ≤ dwB d) → rowsB xs ≤ dwBs ds
  | [], _, _ => Nat.zero_le _
  | r :: xs, [], h => by obtain ⟨d, hd, _⟩ := h 0 r rfl; cases hd
  | r :: xs, d :: ds, h => by
    obtain ⟨d', hd, h1⟩ := h 0 r rfl
    cases hd
    have := rowsB_le xs ds fun i r hr => h (i + 1) r hr
    simp only [rowsB, dwBs]; omega
theorem cellsB_flat (xs : List (List Dat)) : cellsB xs.flatten = rowsB xs := by
  induction xs with
  | nil => rfl
  | cons r xs ih => simp only [List.flatten_cons, cellsB_app, ih, rowsB]
/-- Whatever can be read at the type, with so much fuel, is data of the kind. -/
def IsEnc {T : Type} (P : Program) (fuel : Nat) (t : Nat) (ok : T → Prop) (e : T → List Dat) : Prop :=
  ∀ (H : Type) (enc : TypeId × Value → H) (W : World) (spare : Nat → Bool) (held : Bool) (cs : List Value) (r : DataW H × List MemPlace), DataW.trod enc P W 0 spare held fuel t cs = some r → ∃ x : T, ok x ∧ RdL W cs (e x) ∧ cellsB (e x) ≤ dwB r.1
section
variable {P : Program}
theorem enc_int {fuel t : Nat} {k : IntKind} (ht : P.underlying t = some (.int k)) : IsEnc P fuel t (fun n : Int => (Lit.int k n).wf = true) (fun n => [.v (.int k n)]) := by
  intro H enc W spare held cs r h
  obtain ⟨n, rfl, hr, hw⟩ := DataW.trod_int ht h
  refine ⟨n, hw, ⟨rfl, fun i u x h1 h2 => ?_⟩, by rw [hr]; simp [cellsB, datB, dwB]⟩
  cases i with
  | zero => cases h1; cases h2; exact .v rfl
  | succ i => simp at h1
theorem enc_bool {fuel t : Nat} (ht : P.underlying t = some .bool) : IsEnc P fuel t (fun _ : Bool => True) (fun n => [.v (.bool n)]) := by
  intro H enc W spare held cs r h
  obtain ⟨n, rfl, hr⟩ := DataW.trod_bool ht h
  refine ⟨n, trivial, ⟨rfl, fun i u x h1 h2 => ?_⟩, by rw [hr]; simp [cellsB, datB, dwB]⟩
  cases i with
  | zero => cases h1; cases h2; exact .v rfl
  | succ i => simp at h1
theorem enc_string {fuel t : Nat} (ht : P.underlying t = some .string) : IsEnc P fuel t (fun s : ByteArray => s.size ≤ maxLen) (fun n => [.v (.string n)]) := by
  intro H enc W spare held cs r h
  obtain ⟨n, rfl, hr, hw⟩ := DataW.trod_string ht h
  refine ⟨n, hw, ⟨rfl, fun i u x h1 h2 => ?_⟩, by rw [hr]; simp only [cellsB, datB, dwB, Array.length_toList]; exact Nat.le_refl _⟩
  cases i with
  | zero => cases h1; cases h2; exact .v rfl
  | succ i => simp at h1
theorem mapM_get {α β : Type} {f : α → Option β} : ∀ {l : List α} {r : List β}, l.mapM f = some r → r.length = l.length ∧ ∀ (i : Nat) (a : α), l[i]? = some a → ∃ b, f a = some b ∧ r[i]? = some b
  | [], r, h => by simp at h; subst h; exact ⟨rfl, by simp⟩
  | a :: l, r, h => by
    rw [List.mapM_cons] at h
    cases ha : f a with
    | none => simp [ha] at h
    | some b =>
      cases hl : l.mapM f with
      | none => simp [ha, hl] at h
      | some bs =>
        simp [ha, hl] at h
        subst h
        obtain ⟨h1, h2⟩ := mapM_get hl
        refine ⟨by simp [h1], fun i x hx => ?_⟩
        cases i with
        | zero => cases hx; exact ⟨b, ha, rfl⟩
        | succ i => exact h2 i x (by simpa using hx)
theorem choose_list {T : Type} {p : Nat → T → Prop} : ∀ (n : Nat), (∀ i, i < n → ∃ x, p i x) → ∃ l : List T, l.length = n ∧ ∀ i x, l[i]? = some x → p i x
  | 0, _ => ⟨[], rfl, by simp⟩
  | n + 1, h => by
    obtain ⟨l, h1, h2⟩ := choose_list n (fun i hi => h i (by omega))
    obtain ⟨x, hx⟩ := h n (by omega)
    refine ⟨l ++ [x], by simp [h1], fun i y hy => ?_⟩
    rw [List.getElem?_append] at hy
    split at hy
    · exact h2 i y hy
    · have : i = l.length := by
        have := (List.getElem?_eq_some_iff.1 hy).1
        simp at this
        omega
      subst this
      simp at hy
      subst hy
      rw [h1]
      exact hx
/-- A slice of such elements. -/
theorem enc_slice {T : Type} {fuel t e sz : Nat} {ok : T → Prop} {en : T → List Dat} (ht : P.underlying t = some (.slice e)) (hsz : P.cellsOf e = sz) (h0 : 0 < sz) (hen : ∀ x, (en x).length = sz) (he : ∀ f, f < fuel → IsEnc P f e ok en) :
    IsEnc P fuel t (fun l : List T => l.length ≤ maxLen ∧ ∀ x ∈ l, ok x) (fun l => [.sl sz (l.map en)]) := by
  intro H enc W spare held cs r h
  have single : ∀ (u : Value) (l : List T), l.length ≤ maxLen → (∀ x ∈ l, ok x) → Rd W (fun b => b < W.heap.size) u (.sl sz (l.map en)) → rowsB (l.map en) + 1 ≤ dwB r.1 → ∃ x : List T, (x.length ≤ maxLen ∧ ∀ y ∈ x, ok y) ∧ RdL W [u] [.sl sz (x.map en)] ∧ cellsB [.sl sz (x.map en)] ≤ dwB r.1 := fun u l h1 h2 h3 h4 => by
    refine ⟨l, ⟨h1, h2⟩, ⟨rfl, fun i u' x e1 e2 => ?_⟩, by simp only [cellsB, datB]; omega⟩
    cases i with
    | zero => cases e1; cases e2; exact h3
    | succ i => simp at e1
  rcases DataW.trod_slice ht h with ⟨rfl, hr⟩ | ⟨a, len, cap, elems, rest, n, rfl, rfl, hr, _, hlc, hcm, hel, hget, _, _⟩
  · exact single _ [] (by simp) (by simp) (.nil sz) (by rw [hr]; simp [rowsB, dwB])
  · rw [hsz] at hget
    have each : ∀ i, i < len → ∃ x : T, ok x ∧ (∃ d, (elems.map (·.1))[i]? = some d ∧ cellsB (en x) ≤ dwB d) ∧ ∃ cs : List Value, cs.length = sz ∧ (∀ j, j < sz → W.cell? ((a.add (i * sz)).add j) = cs[j]?) ∧ RdL W cs (en x) := fun i hi => by
      have h1 := hget i hi
      rw [List.getElem?_eq_getElem (by omega)] at h1
      cases hc : W.cells? 0 (a.add (i * sz)) sz with
      | none => rw [hc] at h1; cases h1
      | some cs =>
        rw [hc] at h1
        obtain ⟨_, c2, c3⟩ := World.cells?_some hc
        obtain ⟨x, x1, x2, x3⟩ := he n (by omega) H enc W spare held cs _ h1
        exact ⟨x, x1, ⟨_, by rw [List.getElem?_map, List.getElem?_eq_getElem (by omega)]; rfl, x3⟩, cs, c2, c3, x2⟩
    obtain ⟨l, hl1, hl2⟩ := choose_list len each
    have hspot : l ≠ [] → a.spot = none ∧ a.block < W.heap.size := fun hne => by
      have hlen : 0 < len := by rw [← hl1]; exact List.length_pos_iff.2 hne
      obtain ⟨_, _, cs, c2, c3, _⟩ := hl2 0 _ (List.getElem?_eq_getElem (by omega))
      have h0 := c3 0 (by omega)
      rw [List.getElem?_eq_getElem (by omega)] at h0
      have e : (a.add (0 * sz)).add 0 = a := by simp [Addr.add]
      rw [e] at h0
      refine ⟨?_, World.block_lt_of_cell? W a h0⟩
      unfold World.cell? at h0
      split at h0
      · split at h0
        · cases h0
        · rename_i hs; simpa using hs
      · cases h0
    have ne : l.map en ≠ [] → l ≠ [] := fun h q => h (by rw [q]; rfl)
    have row : ∀ (i j : Nat) (r : List Dat) (x : Dat), (l.map en)[i]? = some r → r[j]? = some x → ∃ u, W.cell? (a.add (i * sz + j)) = some u ∧ Rd W (fun b => b < W.heap.size) u x := fun i j r x h1 h2 => by
      rw [List.getElem?_map] at h1
      cases hx : l[i]? with
      | none => rw [hx] at h1; cases h1
      | some y =>
        rw [hx] at h1
        cases h1
        obtain ⟨_, _, cs, c2, c3, c4, c5⟩ := hl2 i y hx
        have hj : j < sz := by rw [← hen y]; exact (List.getElem?_eq_some_iff.1 h2).1
        have hcj := List.getElem?_eq_getElem (show j < cs.length by omega)
        refine ⟨cs[j], ?_, c5 j _ x hcj h2⟩
        rw [← add_add a (hspot (List.ne_nil_of_mem (List.mem_of_getElem? hx))).1, c3 j hj, hcj]
    refine single _ l (by rw [hl1]; omega) (fun x hx => by
      obtain ⟨i, hi, e⟩ := List.getElem_of_mem hx
      exact (hl2 i x (by rw [← e]; exact List.getElem?_eq_getElem hi)).1) (.sl (fun i j => (W.cell? (a.add (i * sz + j))).getD default) (fun h => (hspot (ne h)).1) (by rw [List.length_map, hl1]) hlc (fun h => (hspot (ne h)).2) (fun i r h1 => ?_) (fun i j r x h1 h2 => ?_) (fun i j r x h1 h2 => ?_)) ?_
    rotate_right
    · rw [hr]
      simp only [dwB]
      refine Nat.succ_le_succ (rowsB_le _ _ fun i r h1 => ?_)
      rw [List.getElem?_map] at h1
      cases hx : l[i]? with
      | none => rw [hx] at h1; cases h1
      | some y => rw [hx] at h1; cases h1; exact (hl2 i y hx).2.1
    · rw [List.getElem?_map] at h1
      cases hx : l[i]? with
      | none => rw [hx] at h1; cases h1
      | some y => rw [hx] at h1; cases h1; exact hen y
    · obtain ⟨u, q1, q2⟩ := row i j r x h1 h2
      rw [q1]; rfl
    · obtain ⟨u, q1, q2⟩ := row i j r x h1 h2
      rw [q1]; exact q2
/-- A struct's fields, one behind the other. -/
def FieldsRd (P : Program) (fuel : Nat) : List Field → Nat → List (Nat × (List Dat → Prop)) → Prop
  | [], _, [] => True
  | f :: fs, off, (n, p) :: l => f.offset = off ∧ P.cellsOf f.type = n ∧ IsEnc (T := { x : List Dat // x.length = n ∧ p x }) P fuel f.type (fun _ => True) (fun x => x.1) ∧ FieldsRd P fuel fs (off + n) l
  | _, _, _ => False
theorem RdL.append {W : World} {cs ds : List Value} {xs ys : List Dat} (h : RdL W cs xs) (k : RdL W ds ys) : RdL W (cs ++ ds) (xs ++ ys) := by
  refine ⟨by simp [h.1, k.1], fun i u x h1 h2 => ?_⟩
  rw [List.getElem?_append] at h1 h2
  rw [h.1] at h1
  split at h1
  · rename_i hi; rw [if_pos hi] at h2; exact h.2 i u x h1 h2
  · rename_i hi; rw [if_neg hi] at h2; exact k.2 _ u x h1 h2
/-- Data of a field's kind, by a predicate. -/
theorem IsEnc.sub {T : Type} {fuel t n : Nat} {ok : T → Prop} {e : T → List Dat} (h : IsEnc P fuel t ok e) (hn : ∀ x, (e x).length = n) : IsEnc (T := { x : List Dat // x.length = n ∧ ∃ y, ok y ∧ x = e y }) P fuel t (fun _ => True) (fun x => x.1) := by
  intro H enc W spare held cs r hr
  obtain ⟨x, h1, h2, h3⟩ := h H enc W spare held cs r hr
  exact ⟨⟨e x, hn x, x, h1, rfl⟩, trivial, h2, h3⟩
theorem enc_struct {fuel t : Nat} {fs : Array Field} {l : List (Nat × (List Dat → Prop))} (ht : P.underlying t = some (.struct fs)) (hc : P.cellsOf t = (l.map (·.1)).sum) (hf : ∀ f, f < fuel → FieldsRd P f fs.toList 0 l) :
    ∀ (H : Type) (enc : TypeId × Value → H) (W : World) (spare : Nat → Bool) (held : Bool) (cs : List Value) (r : DataW H × List MemPlace), DataW.trod enc P W 0 spare held fuel t cs = some r →
      ∃ xs : List (List Dat), xs.length = l.length ∧ (∀ (i : Nat) (x : List Dat) (p : Nat × (List Dat → Prop)), xs[i]? = some x → l[i]? = some p → x.length = p.1 ∧ p.2 x) ∧ RdL W cs xs.flatten ∧ cellsB xs.flatten ≤ dwB r.1 := by
  intro H enc W spare held cs r h
  obtain ⟨ys, n, hn, hr0, hlen, hyl, hy⟩ := DataW.trod_struct ht h
  have main : ∀ (gs : List Field) (zs : List (DataW H × List MemPlace)) (off : Nat) (l : List (Nat × (List Dat → Prop))), FieldsRd P n gs off l → cs.length = off + (l.map (·.1)).sum → (∀ (i : Nat) (f : Field), gs[i]? = some f → ∃ r, DataW.trod enc P W 0 spare held n f.type ((cs.drop f.offset).take (P.cellsOf f.type)) = some r ∧ ∃ k, zs[i]? = some r ∧ k = i) →
      ∃ xs : List (List Dat), xs.length = l.length ∧ (∀ (i : Nat) (x : List Dat) (p : Nat × (List Dat → Prop)), xs[i]? = some x → l[i]? = some p → x.length = p.1 ∧ p.2 x) ∧ RdL W (cs.drop off) xs.flatten ∧ ∀ (i : Nat) (x : List Dat), xs[i]? = some x → ∃ d, (zs.map (·.1))[i]? = some d ∧ cellsB x ≤ dwB d := by
    intro gs
    induction gs with
    | nil =>
      intro zs off l hF hl _
      cases l with
      | nil => exact ⟨[], rfl, by simp, by rw [List.drop_eq_nil_of_le (by simp at hl; omega)]; exact ⟨rfl, by simp⟩, by simp⟩
      | cons _ _ => exact hF.elim
    | cons f gs ih =>
      intro zs off l hF hl hr
      cases l with
      | nil => exact hF.elim
      | cons p l =>
        obtain ⟨k, q⟩ := p
        obtain ⟨rfl, h2, h3, h4⟩ := hF
        simp only [List.map_cons, List.sum_cons] at hl
        obtain ⟨r0, hr0, _, hz0, _⟩ := hr 0 f rfl
        rw [h2] at hr0
        obtain ⟨x, _, hx, hxb⟩ := h3 H enc W spare held _ _ hr0
        obtain ⟨xs, g1, g2, g3, g4⟩ := ih zs.tail (f.offset + k) l h4 (by omega) (fun i g hg => by
          obtain ⟨r1, q1, _, q2, _⟩ := hr (i + 1) g hg
          exact ⟨r1, q1, i, by rw [List.getElem?_tail]; exact q2, rfl⟩)
        refine ⟨x.1 :: xs, by simp [g1], fun i y p e1 e2 => ?_, ?_, fun i y e1 => ?_⟩
        rotate_right
        · cases i with
          | zero => cases e1; exact ⟨r0.1, by rw [List.getElem?_map, hz0]; rfl, hxb⟩
          | succ i =>
            obtain ⟨d, q1, q2⟩ := g4 i y (by simpa using e1)
            rw [List.getElem?_map, List.getElem?_tail] at q1
            exact ⟨d, by rw [List.getElem?_map]; exact q1, q2⟩
        · cases i with
          | zero => cases e1; cases e2; exact x.2
          | succ i => exact g2 i y p (by simpa using e1) (by simpa using e2)
        · have e : cs.drop f.offset = (cs.drop f.offset).take k ++ cs.drop (f.offset + k) := by
            rw [← List.drop_drop, List.take_append_drop]
          rw [e, List.flatten_cons]
          exact hx.append g3
  obtain ⟨xs, g1, g2, g3, g4⟩ := main fs.toList ys 0 l (hf n (by omega)) (by rw [hlen, hc]; omega) (fun i f hf' => by
    have hget : fs[i]? = some f := by rw [← hf']; simp
    have hi' : i < fs.size := (Array.getElem?_eq_some_iff.1 hget).1
    refine ⟨ys[i], ?_, i, List.getElem?_eq_getElem (by omega), rfl⟩
    rw [hy i f hget, List.getElem?_eq_getElem (by omega)])
  refine ⟨xs, g1, g2, by simpa using g3, ?_⟩
  rw [cellsB_flat, hr0]
  simp only [dwB]
  exact Nat.le_succ_of_le (rowsB_le _ _ g4)
/-- The law's call. -/
theorem law_calls {Γ : Gam} (hm : P.follows .mixedOrders = true) (K : Known P Γ) {g : Nat} {args : List AV} (hids : AV.ids.idsL args = []) (hb : Body P Γ (DRun P Γ) g args (vBool true)) {W : World} {vals : Array Value} (hsz : vals.size = args.length)
    (hv : ∀ (i : Nat) (u : Value) (c : AV), vals[i]? = some u → args[i]? = some c → Val W (fun b => b < W.heap.size) (fun _ => .nilFunc) u c) (ht : TabsAt W fun b => b < W.heap.size := by exact fun _ _ h => by cases h) : Calls P g vals W fun e W' => e = .returned (.bool true) ∧ Below W.heap.size W W' := by
  obtain ⟨_, _, hc⟩ := Body.calm K.ok (Draws hm K.ok K.loc) hids rfl hb
  let C : Ctx := ⟨W, fun _ => False, fun b => b < W.heap.size, fun _ h => h, fun _ _ h => h, fun _ => .nilFunc, ht⟩
  have I : Inv C (fun _ => .nilFunc) W [] := ⟨rfl, rfl, rfl, Nat.le_refl _, fun _ _ _ => rfl, fun o obj ho => by simp [Hp.get] at ho, fun o o' obj obj' b ho => by simp [Hp.get] at ho, fun o obj b ho => by simp [Hp.get] at ho⟩
  have him : ∀ b, b < W.heap.size → im C (fun _ => .nilFunc) W [] b ∧ W.heap[b]? = W.heap[b]? := fun b hb => ⟨⟨hb, .inl hb, fun o obj ho => by simp [Hp.get] at ho⟩, rfl⟩
  refine (hc C _ W [] vals I hsz fun i u c h1 h2 => (hv i u c h1 h2).mono him fun _ _ => rfl).mono fun e W' ⟨v, h1, h2, h3, h4, h5, h6, h7⟩ => ?_
  cases h7 with
  | d h7 =>
  cases h7
  exact ⟨h1, h2, h3, h4, h5, h6⟩
/-- A slot's value, of the cells that it has. -/
theorem val_one {W : World} {u : Value} {x : Dat} {m : Nat → Value} (h : RdL W [u] [x]) : Val W (fun b => b < W.heap.size) m u (.d x) := .d (h.2 0 u x rfl rfl)
theorem val_agg {W : World} {us : Array Value} {xs : List Dat} {m : Nat → Value} (h : RdL W us.toList xs) : Val W (fun b => b < W.heap.size) m (.agg us) (.agg (xs.map .d)) := by
  refine .agg (by have := h.1; simpa using this) fun i u c h1 h2 => ?_
  rw [List.getElem?_map] at h2
  cases hx : xs[i]? with
  | none => rw [hx] at h2; cases h2
  | some x => rw [hx] at h2; cases h2; exact .d (h.2 i u x (by simpa using h1) hx)
end
end Go.Proofs.Ytlhhibhcoefolaa.Eng
