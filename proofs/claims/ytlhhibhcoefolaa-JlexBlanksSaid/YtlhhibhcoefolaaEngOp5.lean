/- Structs, arrays and rows built of parts, on the small machine. -/
import Derived.Test.YtlhhibhcoefolaaEngOp4
namespace Go.Proofs.Ytlhhibhcoefolaa.Eng
open Go
set_option linter.unusedVariables false
set_option linter.unusedSimpArgs false
def fillA (place : Nat → Option (Nat × Nat)) (cs : List AV) : List (Nat × AV) → Option (List AV)
  | [] => some cs
  | (i, x) :: rest => match place i with
    | some (off, size) => if x.cells.length = size ∧ off + x.cells.length ≤ cs.length ∧ allCell x.cells = true then fillA place (put cs off x.cells) rest else none
    | none => none
/-- The fields' places. -/
def placesOf (P : Program) : List (Nat × Nat) → Option (List (Nat × Nat))
  | [] => some []
  | p :: l => match ti P p.2, placesOf P l with
    | some T, some r => some ((p.1, T.sz) :: r)
    | _, _ => none
def effBuild (P : Program) (t : Nat) (parts : List (Nat × AV)) : Option Eff :=
  match ti P t with
  | some T => match T.d with
    | .struct fs => match placesOf P fs with
      | some l => match fillA (fun i => l[i]?) (T.z.map fun u => .d (.v u)) parts with
        | some cs => some { sc := True, val := .agg cs }
        | none => none
      | none => none
    | .array _ e => match ti P e with
      | some E => match fillA (fun i => some (i * E.sz, E.sz)) (T.z.map fun u => .d (.v u)) parts with
        | some cs => some { sc := True, val := .agg cs }
        | none => none
      | none => none
    | _ => none
  | none => none
def chunk (sz : Nat) : Nat → List Dat → List (List Dat)
  | 0, _ => []
  | n + 1, l => l.take sz :: chunk sz n (l.drop sz)
def effBuildSlice (P : Program) (h : Nat → Option AObj) (d t n : Nat) (parts : List (Nat × AV)) : Option Eff :=
  match sliceOf P t with
  | some (e, E) => if n * E.sz ≤ 16777216 ∧ 0 < E.sz then
      match fillA (fun i => some (i * E.sz, E.sz)) (seg (fun i => .d (.v (E.z.getD (i % E.sz) default))) 0 (n * E.sz)) parts with
      | some cs => match toDs h cs with
        | some (xs, l) => some { sc := True, val := .row d n, up := (d, some (.row e E.sz (chunk E.sz n xs))) :: drops l, new := true }
        | none => none
      | none => none else none
  | none => none
def effMakeSlice (P : Program) (d t : Nat) : AV → AV → Option Eff
  | .d (.v (.int .i64 n)), .d (.v (.int .i64 c)) => match sliceOf P t with
    | some (e, E) => if 0 < E.sz ∧ 0 < E.by_ then some { sc := 0 ≤ n ∧ n ≤ c ∧ c * E.by_ ≤ 281474976710656, val := .row d n.toNat, up := [(d, some (.row e E.sz (List.replicate n.toNat (E.z.map fun u => .v u))))], new := true } else none
    | none => none
  | _, _ => none
theorem chunk_get (sz : Nat) : ∀ (n : Nat) (l : List Dat) (i : Nat), i < n → (chunk sz n l)[i]? = some ((l.drop (i * sz)).take sz)
  | 0, _, _, h => by omega
  | n + 1, l, 0, _ => by simp [chunk]
  | n + 1, l, i + 1, h => by
    simp only [chunk, List.getElem?_cons_succ]
    rw [chunk_get sz n (l.drop sz) i (by omega), List.drop_drop, Nat.add_mul, Nat.one_mul, Nat.add_comm]
theorem chunk_length (sz : Nat) : ∀ (n : Nat) (l : List Dat), (chunk sz n l).length = n
  | 0, _ => rfl
  | n + 1, l => by simp [chunk, chunk_length sz n]
section
variable {P : Program} {C : Ctx} {m : Nat → Value} {w : World} {hp : Hp} {d : Nat} {sc : Prop}
theorem foldl_set (us : Array Value) (off : Nat) : ∀ (vs : List Value) (k : Nat) (us : Array Value), off + k + vs.length ≤ us.size →
    ((vs.zipIdx k).foldl (fun cs (c, j) => cs.setIfInBounds (off + j) c) us) = (put us.toList (off + k) vs).toArray
  | [], k, us, _ => by simp [put]
  | v :: vs, k, us, h => by
    simp only [List.length_cons] at h
    simp only [List.zipIdx_cons, List.foldl_cons]
    rw [foldl_set us off vs (k + 1) _ (by simp; omega)]
    apply Array.ext'
    simp only [Array.toList_setIfInBounds]
    apply List.ext_getElem?
    intro i
    rw [put_get (by simp; omega), put_get (by simp; omega)]
    simp only [List.length_cons]
    by_cases h1 : off + k = i
    · rw [if_neg (by omega), if_pos (by omega), ← h1, List.getElem?_set_self (by simp; omega), Nat.sub_self]
      rfl
    · by_cases h2 : off + (k + 1) ≤ i ∧ i < off + (k + 1) + vs.length
      · rw [if_pos h2, if_pos (by omega), show i - (off + k) = (i - (off + (k + 1))) + 1 by omega, List.getElem?_cons_succ]
      · rw [if_neg h2, if_neg (by omega), List.getElem?_set, if_neg h1]
theorem fill_ok {imp : Nat → Prop} (place : Nat → Option (Nat × Nat)) : ∀ (parts : List (Nat × Value)) (avs : List (Nat × AV)) (us : Array Value) (cs cs' : List AV),
    parts.length = avs.length → (∀ (i : Nat) (p : Nat × Value) (q : Nat × AV), parts[i]? = some p → avs[i]? = some q → p.1 = q.1 ∧ Val w imp m p.2 q.2) →
    us.size = cs.length → (∀ (i : Nat) (u : Value) (c : AV), us[i]? = some u → cs[i]? = some c → Val w imp m u c) → allCell cs = true → fillA place cs avs = some cs' →
    ∃ us', Instr.fill place us parts = some us' ∧ us'.size = cs'.length ∧ cs'.length = cs.length ∧ (∀ (i : Nat) (u : Value) (c : AV), us'[i]? = some u → cs'[i]? = some c → Val w imp m u c) ∧ allCell cs' = true
  | [], [], us, cs, cs', _, _, hn, hv, hc, h => by
    cases h
    exact ⟨us, rfl, hn, rfl, hv, hc⟩
  | (i, v) :: parts, (j, x) :: avs, us, cs, cs', hl, hp, hn, hv, hc, h => by
    obtain ⟨e, hx⟩ := hp 0 _ _ rfl rfl
    simp only at e hx
    subst e
    simp only [fillA] at h
    simp only [Instr.fill]
    split at h
    · rename_i off size hpl
      split at h
      · rename_i hcond
        obtain ⟨h1, h2, h3⟩ := hcond
        obtain ⟨g1, g2, g3⟩ := hx.cells h3
        have hle : off + v.cells.toList.length ≤ us.toList.length := by simp; omega
        have hz : ∀ (v : Value), v.cells.zipIdx.foldl (fun cs (c, j) => cs.setIfInBounds (off + j) c) us = (v.cells.toList.zipIdx 0).foldl (fun cs (c, j) => cs.setIfInBounds (off + j) c) us := fun v => by
          rw [← Array.foldl_toList, Array.toList_zipIdx]
        rw [hpl]
        simp only
        rw [if_neg (by simp; omega), hz, foldl_set us off v.cells.toList 0 us (by simpa using hle), Nat.add_zero]
        obtain ⟨us', q1, q2, q3, q4⟩ := fill_ok place parts avs (put us.toList off v.cells.toList).toArray (put cs off x.cells) cs' (by simpa using hl) (fun i p q e1 e2 => hp (i + 1) p q (by simpa using e1) (by simpa using e2))
          (by rw [List.size_toArray, put_length hle, put_length h2]; simpa using hn)
          (fun i u c e1 e2 => by
            rw [List.getElem?_toArray, put_get hle] at e1
            rw [put_get h2] at e2
            rw [Array.length_toList, g1] at e1
            split at e1
            · rename_i hi; rw [if_pos hi] at e2; exact g2 _ _ _ (by simpa using e1) e2
            · rename_i hi; rw [if_neg hi] at e2; exact hv _ _ _ (by simpa using e1) e2)
          (List.all_eq_true.2 fun c hcm => by
            obtain ⟨k, hk, e⟩ := List.getElem_of_mem hcm
            have q := List.getElem?_eq_getElem hk
            rw [e, put_get h2] at q
            split at q
            · exact List.all_eq_true.1 h3 c (List.mem_of_getElem? q)
            · exact List.all_eq_true.1 hc c (List.mem_of_getElem? q)) h
        exact ⟨us', q1, q2, by rw [q3, put_length h2], q4⟩
      · cases h
    · cases h
  | [], _ :: _, _, _, _, hl, _, _, _, _, _ => by simp at hl
  | _ :: _, [], _, _, _, hl, _, _, _, _, _ => by simp at hl
theorem zero_vals {imp : Nat → Prop} {l : List Value} (h : l.all Value.oneCell' = true) : (∀ (i : Nat) (u : Value) (c : AV), l.toArray[i]? = some u → (l.map fun u => AV.d (.v u))[i]? = some c → Val w imp m u c) ∧ allCell (l.map fun u => AV.d (.v u)) = true := by
  refine ⟨fun i u c h1 h2 => ?_, List.all_eq_true.2 fun c hc => ?_⟩
  · rw [List.getElem?_toArray] at h1
    rw [List.getElem?_map, h1] at h2
    cases h2
    exact .d (.v (List.all_eq_true.1 h u (List.mem_of_getElem? h1)))
  · obtain ⟨u, _, rfl⟩ := List.mem_map.1 hc
    rfl
theorem run_places : ∀ (fs : List Field) (l : List (Nat × Nat)), placesOf P (fs.map fun f => (f.offset, f.type)) = some l →
    (fs.mapM fun f => (do pure (f.offset, ← sizeOf f.type) : Sem (Nat × Nat))).run P w = .ok l w
  | [], l, h => by cases h; simp
  | f :: fs, l, h => by
    simp only [List.map_cons, placesOf] at h
    split at h
    · rename_i T r hT hr
      cases h
      simp only [List.mapM_cons, Sem.run_bind, run_sizeOf hT, Result.andThen_ok, Sem.run_pure, run_places fs r hr]
    · cases h
theorem effBuild_ok (I : Inv C m w hp) {t : Nat} {parts : List (Nat × Value)} {avs : List (Nat × AV)} {e : Eff} (he : effBuild P t avs = some e) (hl : parts.length = avs.length)
    (hv : ∀ (i : Nat) (p : Nat × Value) (q : Nat × AV), parts[i]? = some p → avs[i]? = some q → p.1 = q.1 ∧ Val w (im C m w hp) m p.2 q.2) : Ok C m w hp d e ((Instr.build t parts.toArray).run P w) := by
  unfold effBuild at he
  split at he
  case h_2 => cases he
  rename_i T hT
  obtain ⟨i, dd, z, _, h1, h2, h3, _, _, hz, hzn, hone⟩ := ti_info hT
  obtain ⟨z', hz1, hz2⟩ := run_zero (P := P) (w := w) hT
  obtain ⟨zv, zc⟩ := zero_vals (w := w) (imp := im C m w hp) (m := m) hone
  have hzc : z'.cells = T.z.toArray := by rw [← hz2]
  split at he
  · rename_i fs hd
    rw [hd] at h2
    cases dd <;> simp [tyd] at h2
    rename_i fields
    split at he
    · rename_i l hpl
      split at he
      · rename_i cs hcs
        cases he
        obtain ⟨us', q1, q2, _, q3, _⟩ := fill_ok (w := w) (imp := im C m w hp) (m := m) (fun i => l[i]?) parts avs T.z.toArray _ cs hl hv (by simp) zv zc hcs
        have hm : (fields.mapM fun f => (do pure (f.offset, ← sizeOf f.type) : Sem (Nat × Nat))).run P w = .ok l.toArray w := by
          rw [Array.mapM_eq_mapM_toList, Sem.run_map, run_places fields.toList l (by rw [h2]; exact hpl)]
          rfl
        have hfun : (fun i : Nat => l.toArray[i]?) = fun i => l[i]? := by funext i; simp
        simp only [Instr.build, Sem.run_bind, hz1, Result.andThen_ok, run_underlying h1, hm, hzc, hfun, q1, Sem.run_pure]
        exact Ok.same I (.agg q2 q3)
      · cases he
    · cases he
  · rename_i n e0 hd
    rw [hd] at h2
    have h4 := tyd_array h2
    subst h4
    split at he
    · rename_i E hE
      split at he
      · rename_i cs hcs
        cases he
        obtain ⟨us', q1, q2, _, q3, _⟩ := fill_ok (w := w) (imp := im C m w hp) (m := m) (fun i => some (i * E.sz, E.sz)) parts avs T.z.toArray _ cs hl hv (by simp) zv zc hcs
        simp only [Instr.build, Sem.run_bind, hz1, Result.andThen_ok, run_underlying h1, run_sizeOf hE, hzc, q1, Sem.run_pure]
        exact Ok.same I (.agg q2 q3)
      · cases he
    · cases he
  · cases he
end
end Go.Proofs.Ytlhhibhcoefolaa.Eng
