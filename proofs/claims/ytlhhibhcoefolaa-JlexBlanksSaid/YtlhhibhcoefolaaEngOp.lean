/- What single operations do, on the small machine: its answer, and that the model's answer is that. -/
import Derived.Test.YtlhhibhcoefolaaEngInv
namespace Go.Proofs.Ytlhhibhcoefolaa.Eng
open Go

/-- A type, as the operations ask of it. -/
inductive TyD where
  | int (k : IntKind) | bool | str | slice (e : Nat) | struct (fs : List (Nat × Nat)) | array (n e : Nat) | ptr (e : Nat) | other
structure Ti where
  d : TyD
  sz : Nat
  by_ : Nat
  z : List Value
def tyd : TypeDesc → TyD
  | .int k => .int k
  | .bool => .bool
  | .string => .str
  | .slice e => .slice e
  | .struct fs => .struct (fs.toList.map fun f => (f.offset, f.type))
  | .array n e => .array n e
  | .pointer e => .ptr e
  | _ => .other
def ti (P : Program) (t : Nat) : Option Ti :=
  match P.info? t, P.underlying t with
  | some i, some d => match i.zero with
    | some z => if z.cells.size = i.size ∧ z.cells.toList.all Value.oneCell' = true then some ⟨tyd d, i.size, i.bytes, z.cells.toList⟩ else none
    | none => none
  | _, _ => none
def TyD.agg : TyD → Bool
  | .struct _ | .array _ _ => true
  | _ => false
theorem ti_info {P : Program} {t : Nat} {T : Ti} (h : ti P t = some T) : ∃ i d z, P.info? t = some i ∧ P.underlying t = some d ∧ tyd d = T.d ∧ i.zero = some z ∧ i.size = T.sz ∧ i.bytes = T.by_ ∧ z.cells.toList = T.z ∧ z.cells.size = T.sz ∧ T.z.all Value.oneCell' = true := by
  unfold ti at h
  split at h
  · rename_i i d h1 h2
    split at h
    · rename_i z h3
      split at h
      · rename_i h4
        cases h
        exact ⟨i, d, z, h1, h2, rfl, h3, rfl, rfl, rfl, h4.1, h4.2⟩
      · cases h
    · cases h
  · cases h
theorem tyd_agg (d : TypeDesc) : (tyd d).agg = (match d with | .struct _ | .array _ _ => true | _ => false) := by cases d <;> rfl
section
variable {P : Program} {t : Nat} {T : Ti} {w : World}
theorem run_sizeOf (h : ti P t = some T) : (sizeOf t).run P w = .ok T.sz w := by
  obtain ⟨i, d, z, h1, h2, h3, h4, h5, _⟩ := ti_info h
  simp [sizeOf, typeInfo, h1, h5]
theorem run_isAgg (h : ti P t = some T) : (isAgg t).run P w = .ok T.d.agg w := by
  obtain ⟨i, d, z, h1, h2, h3, h4, h5, _⟩ := ti_info h
  rw [← h3, tyd_agg]
  unfold isAgg
  rw [Sem.run_bind, run_underlying h2 w]
  cases d <;> rfl
theorem run_zero (h : ti P t = some T) : ∃ z : Value, (zeroValue t).run P w = .ok z w ∧ z.cells.toList = T.z := by
  obtain ⟨i, d, z, h1, h2, h3, h4, h5, _, h6, _⟩ := ti_info h
  exact ⟨z, by simp [zeroValue, typeInfo, h1, h4], h6⟩
end

structure Eff where
  sc : Prop
  val : AV
  up : Hp := []
  new : Bool := false
def Fr (hp : Hp) (d : Nat) : Prop := ∀ o obj, hp.get o = some obj → o ≠ d ∧ d ∉ obj.ids
def Ok (C : Ctx) (m : Nat → Value) (w : World) (hp : Hp) (d : Nat) (e : Eff) (r : Result Value) : Prop :=
  ∃ v w' m', r = .ok v w' ∧ (∀ o, (e.new = true → o ≠ d) → m' o = m o) ∧ Inv C m' w' (e.up ++ hp) ∧ Val w' (im C m' w' (e.up ++ hp)) m' v e.val ∧
    ∀ b, im C m w hp b → im C m' w' (e.up ++ hp) b ∧ w'.heap[b]? = w.heap[b]?
/-- The store's answer is no value. -/
def OkU (C : Ctx) (m : Nat → Value) (w : World) (hp : Hp) (e : Eff) (r : Result Unit) : Prop :=
  ∃ w', r = .ok () w' ∧ Inv C m w' (e.up ++ hp) ∧ ∀ b, im C m w hp b → im C m w' (e.up ++ hp) b ∧ w'.heap[b]? = w.heap[b]?

def AV.cells : AV → List AV
  | .agg cs => cs
  | c => [c]
def allCell (l : List AV) : Bool := l.all AV.cell
section
variable {P : Program} {C : Ctx} {m : Nat → Value} {w : World} {hp : Hp} {d : Nat} {sc : Prop}
theorem Ok.same (I : Inv C m w hp) {v : Value} {c : AV} {nw : Bool} (h : Val w (im C m w hp) m v c) : Ok C m w hp d ⟨sc, c, [], nw⟩ (.ok v w) :=
  ⟨v, w, m, rfl, fun _ _ => rfl, I, h, fun _ h => ⟨h, rfl⟩⟩
theorem Val.cells {im : Nat → Prop} {u : Value} {c : AV} (h : Val w im m u c) (hc : allCell c.cells = true) :
    u.cells.size = c.cells.length ∧ (∀ (i : Nat) (u' : Value) (c' : AV), u.cells[i]? = some u' → c.cells[i]? = some c' → Val w im m u' c') ∧ ∀ u' ∈ u.cells.toList, u'.oneCell' = true := by
  have one : c.cell = true → u.cells = #[u] ∧ c.cells = [c] := fun hc => by
    have h1 := h.one hc
    refine ⟨?_, ?_⟩
    · cases u <;> first | rfl | cases h1
    · cases c <;> first | rfl | cases hc
  by_cases hcc : c.cell = true
  · obtain ⟨e1, e2⟩ := one hcc
    rw [e1, e2]
    refine ⟨rfl, fun i u' c' h1 h2 => ?_, fun u' hu => ?_⟩
    · cases i with
      | zero => cases h1; cases h2; exact h
      | succ i => simp at h2
    · simp only [List.mem_singleton] at hu
      subst hu
      exact h.one hcc
  · cases h with
    | @agg us cs hn h =>
      refine ⟨hn, h, fun u' hu => ?_⟩
      replace hu : u' ∈ us.toList := hu
      obtain ⟨i, hi, e⟩ := List.getElem_of_mem hu
      have hi' : i < (AV.cells (.agg cs)).length := by rw [AV.cells, ← hn]; simpa using hi
      have h3 := h i u' _ (by rw [← e]; simp) (List.getElem?_eq_getElem hi')
      exact h3.one (List.all_eq_true.1 hc _ (List.getElem_mem hi'))
    | tup => simp [allCell, AV.cells, AV.cell] at hc
    | gd => simp [allCell, AV.cells, AV.cell] at hc
    | bad => simp [allCell, AV.cells, AV.cell] at hc
    | _ => exact absurd rfl hcc
theorem Ok.alloc (I : Inv C m w hp) (hf : Fr hp d) {us : Array Value} {cs : List AV} {e : TypeId} (hn : us.size = cs.length)
    (hv : ∀ (i : Nat) (u : Value) (c : AV), us[i]? = some u → cs[i]? = some c → Val w (im C m w hp) m u c) (hc : allCell cs = true) (hd : d ∉ AV.ids.idsL cs) :
    Ok C m w hp d ⟨sc, .ptr d 0, [(d, some (.cells e cs))], true⟩ (.ok (.pointer (some ⟨w.heap.size, 0, none⟩)) (w.alloc (.cells us e))) := by
  let m' : Nat → Value := fun o => if o = d then .pointer (some ⟨w.heap.size, 0, none⟩) else m o
  have md : m' d = .pointer (some ⟨w.heap.size, 0, none⟩) := if_pos rfl
  have mo : ∀ o, o ≠ d → m' o = m o := fun o h => if_neg h
  have hids : ∀ {i : Nat} {c : AV}, cs[i]? = some c → ∀ o ∈ c.ids, m' o = m o := fun h o ho => mo o fun e => hd (e ▸ idsL_mem h o ho)
  obtain ⟨I', k⟩ := I.put (m' := m') (w' := w.alloc (.cells us e)) (hp1 := hp) (fun _ _ h => h) d (.cells e cs) mo (.inr fun o x h _ => (hf o x h).2) rfl rfl rfl (by simp)
    (fun k hk _ => heap_alloc_old w _ k hk)
    (fun b hb => by
      rw [md] at hb
      cases hb
      obtain ⟨h1, h2, h3⟩ := I.new_blk (hp1 := hp) (fun _ _ h => h) w.heap.size (Nat.le_refl _)
      exact ⟨h1, h2, fun o x ho _ => h3 o x ho⟩)
    (fun im' h => ⟨w.heap.size, us, md, heap_alloc_new w _, hn, fun i u c h1 h2 => (hv i u c h1 h2).mono h (hids h2), fun c hcm => List.all_eq_true.1 hc c hcm⟩)
  exact ⟨_, _, m', rfl, fun o ho => mo o (ho rfl), I', .ptr md, k⟩

/-! ### Loads -/
def seg {α : Type} (f : Nat → α) : Nat → Nat → List α
  | _, 0 => []
  | off, n + 1 => f off :: seg f (off + 1) n
theorem seg_length {α : Type} (f : Nat → α) : ∀ n off, (seg f off n).length = n
  | 0, _ => rfl
  | n + 1, off => by simp [seg, seg_length f n]
theorem seg_get {α : Type} (f : Nat → α) : ∀ n off i, i < n → (seg f off n)[i]? = some (f (off + i))
  | 0, _, _, h => by omega
  | n + 1, off, 0, _ => by simp [seg]
  | n + 1, off, i + 1, h => by
    simp only [seg, List.getElem?_cons_succ]
    rw [seg_get f n (off + 1) i (by omega), Nat.add_assoc, Nat.add_comm 1]
def effLoad (P : Program) (h : Nat → Option AObj) (t : Nat) : AV → Option Eff
  | .ptr o off => match ti P t, h o with
    | some T, some (.cells _ cs) => if T.d.agg then (if off + T.sz ≤ cs.length then some { sc := True, val := .agg (seg (fun j => cs.getD j .bad) off T.sz) } else none) else if off < cs.length then some { sc := True, val := cs.getD off .bad } else none
    | _, _ => none
  | .ep cs off => match ti P t with
    | some T => if T.d.agg then some { sc := off + T.sz ≤ cs.length, val := .agg (seg (fun j => .d (cs.getD j default)) off T.sz) } else some { sc := off < cs.length, val := .d (cs.getD off default) }
    | _ => none
  | .rp o sz i off => match ti P t, h o with
    | some T, some (.row _ s xs) => if s = sz then (if T.d.agg then some { sc := i < xs.length ∧ off + T.sz ≤ sz, val := .agg (seg (fun j => .d ((xs.getD i []).getD j default)) off T.sz) } else some { sc := i < xs.length ∧ off < sz, val := .d ((xs.getD i []).getD off default) }) else none
    | _, _ => none
  | _ => none
/-- A load, where the cells from the address on are known. -/
theorem load_cells {t : Nat} {T : Ti} (hT : ti P t = some T) {a : Addr} {us : Nat → Value} (n : Nat) (hn : T.d.agg = true → T.sz ≤ n) (hn1 : T.d.agg = false → 0 < n)
    (hc : ∀ j, j < n → w.cell? (a.add j) = some (us j)) :
    (Instr.loadAt t (.pointer (some a))).run P w = .ok (if T.d.agg then .agg ((List.range T.sz).map us).toArray else us 0) w := by
  simp only [Instr.loadAt, Instr.sureAddr, Sem.run_bind, Sem.run_pure, Result.andThen_ok, loadVar, run_isAgg hT]
  by_cases ha : T.d.agg = true
  · simp only [ha, if_true, Sem.run_bind, run_sizeOf hT, Result.andThen_ok]
    have hl := run_loadCells_list (P := P) w a ((List.range T.sz).map us) (fun j v hj => by
      rw [List.getElem?_map] at hj
      by_cases hlt : j < T.sz
      · rw [List.getElem?_range hlt] at hj
        simp only [Option.map_some, Option.some.injEq] at hj
        rw [← hj]
        exact hc j (Nat.lt_of_lt_of_le hlt (hn ha))
      · rw [List.getElem?_eq_none (by simpa using hlt)] at hj
        cases hj)
    simp only [List.length_map, List.length_range] at hl
    rw [hl]
    rfl
  · have ha' : T.d.agg = false := by simpa using ha
    simp only [ha', Bool.false_eq_true, if_false]
    have h0 := hc 0 (hn1 ha')
    have e : a.add 0 = a := by simp [Addr.add]
    rw [e] at h0
    rw [run_load, h0]
theorem getD_some {α : Type} {l : List α} {i : Nat} {x d : α} (h : l[i]? = some x) : l.getD i d = x := by simp [h]
theorem get_getD {α : Type} {l : List α} {i : Nat} (d : α) (h : i < l.length) : l[i]? = some (l.getD i d) := by simp [h]
theorem effLoad_ok (I : Inv C m w hp) {t : Nat} {c : AV} {u : Value} {e : Eff} (he : effLoad P hp.get t c = some e) (hs : e.sc) (hv : Val w (im C m w hp) m u c) : Ok C m w hp d e ((Instr.loadAt t u).run P w) := by
  cases hv with
  | @ptr o off b hm =>
    simp only [effLoad] at he
    split at he
    · rename_i T ety cs hT ho
      obtain ⟨b', us, h1, h2, h3, h4, h5⟩ := I.live o _ ho
      rw [hm] at h1
      cases h1
      have hcell : ∀ j, j < us.size → w.cell? ⟨b, j, none⟩ = some (us.getD j default) := fun j hj => by
        simp [World.cell?, h2, hj]
      have hval : ∀ j, j < cs.length → Val w (im C m w hp) m (us.getD j default) (cs.getD j .bad) := fun j hj => h4 j _ _ (by simp [h3, hj]) (get_getD _ hj)
      have hload := fun n (hn : off + n ≤ cs.length) => load_cells (P := P) (w := w) hT (a := ⟨b, off, none⟩) (us := fun j => us.getD (off + j) default) n
      split at he
      · rename_i ha
        split at he
        · rename_i hle
          cases he
          rw [hload T.sz hle (fun _ => Nat.le_refl _) (fun e => by rw [ha] at e; cases e) (fun j hj => by rw [addr_eta _ rfl]; exact hcell (off + j) (by omega)), if_pos ha]
          refine Ok.same I (.agg (by simp [seg_length]) fun i u c h6 h7 => ?_)
          have hi : i < T.sz := by have := (List.getElem?_eq_some_iff.1 h7).1; rwa [seg_length] at this
          rw [seg_get _ _ _ _ hi] at h7
          simp [hi] at h6
          cases h7
          rw [← h6]
          have := hval (off + i) (by omega)
          simpa using this
        · cases he
      · rename_i ha
        split at he
        · rename_i hlt
          cases he
          rw [hload 1 hlt (fun e => absurd e ha) (fun _ => Nat.one_pos) (fun j hj => by rw [addr_eta _ rfl]; exact hcell (off + j) (by omega)), if_neg ha]
          exact Ok.same I (hval off hlt)
        · cases he
    · cases he
  | @ep a cs off vs hs' hi hw hr =>
    simp only [effLoad] at he
    split at he
    · rename_i T hT
      have hload := fun n (hn : off + n ≤ cs.length) => load_cells (P := P) (w := w) hT (a := a.add off) (us := fun j => vs (off + j)) n
      have hval : ∀ j, j < cs.length → Val w (im C m w hp) m (vs j) (.d (cs.getD j default)) := fun j hj => .d (hr j _ (get_getD _ hj))
      split at he
      · rename_i ha
        cases he
        rw [hload T.sz hs (fun _ => Nat.le_refl _) (fun e => by rw [ha] at e; cases e) (fun j hj => by rw [add_add a hs']; exact hw _ _ (get_getD default (by have := hs; simp only at this; omega))), if_pos ha]
        refine Ok.same I (.agg (by simp [seg_length]) fun i u c h6 h7 => ?_)
        have hi : i < T.sz := by have := (List.getElem?_eq_some_iff.1 h7).1; rwa [seg_length] at this
        rw [seg_get _ _ _ _ hi] at h7
        simp [hi] at h6
        cases h7
        rw [← h6]
        exact hval (off + i) (by have := hs; simp only at this; omega)
      · rename_i ha
        cases he
        rw [hload 1 hs (fun e => absurd e ha) (fun _ => Nat.one_pos) (fun j hj => by rw [add_add a hs']; exact hw _ _ (get_getD default (by have := hs; simp only at this; omega))), if_neg ha]
        exact Ok.same I (hval off hs)
    · cases he
  | @rp o sz i off b n cap hm =>
    simp only [effLoad] at he
    split at he
    · rename_i T e0 s xs hT ho
      split at he
      · rename_i hsz
        subst hsz
        obtain ⟨us, h1, h2, h3⟩ := I.live o _ ho
        rw [hm] at h1
        rcases h1.2 with ⟨hn, _⟩ | ⟨g, cp, cur, hg, _, hh, _, _, _, htk⟩
        · cases hn
        cases hg
        have hcell : ∀ j u, us[j]? = some u → w.cell? ⟨b, j, none⟩ = some u := fun j u hu => by
          rw [← htk, List.getElem?_take] at hu
          split at hu
          · simp only [World.cell?, hh]; simpa using hu
          · cases hu
        have hrow : ∀ j, i < xs.length → j < s → ∃ u, w.cell? ⟨b, i * s + j, none⟩ = some u ∧ Rd w (im C m w hp) u ((xs.getD i []).getD j default) := fun j hi hj => by
          have hr := get_getD [] hi
          have hl := h2 i _ hr
          obtain ⟨u, q1, q2⟩ := h3 i j _ _ hr (get_getD default (by omega))
          exact ⟨u, hcell _ _ q1, q2⟩
        have hload := fun n (us : Nat → Value) => load_cells (P := P) (w := w) hT (a := ⟨b, i * s + off, none⟩) (us := us) n
        have pick : i < xs.length → ∃ us : Nat → Value, ∀ j, off + j < s → w.cell? ((⟨b, i * s + off, none⟩ : Addr).add j) = some (us j) ∧ Rd w (im C m w hp) (us j) ((xs.getD i []).getD (off + j) default) := fun hi => by
          have : ∀ j, ∃ u, off + j < s → w.cell? ((⟨b, i * s + off, none⟩ : Addr).add j) = some u ∧ Rd w (im C m w hp) u ((xs.getD i []).getD (off + j) default) := fun j => by
            by_cases hj : off + j < s
            · obtain ⟨u, q1, q2⟩ := hrow (off + j) hi hj
              refine ⟨u, fun _ => ⟨?_, q2⟩⟩
              rw [addr_eta _ rfl]
              rw [← Nat.add_assoc] at q1
              exact q1
            · exact ⟨default, fun h => absurd h hj⟩
          exact ⟨fun j => (this j).choose, fun j => (this j).choose_spec⟩
        split at he
        · rename_i ha
          cases he
          obtain ⟨hi, hle⟩ := hs
          obtain ⟨us, hus⟩ := pick hi
          rw [hload T.sz us (fun _ => Nat.le_refl _) (fun e => by rw [ha] at e; cases e) (fun j hj => (hus j (by omega)).1), if_pos ha]
          refine Ok.same I (.agg (by simp [seg_length]) fun k u c h6 h7 => ?_)
          have hk : k < T.sz := by have := (List.getElem?_eq_some_iff.1 h7).1; rwa [seg_length] at this
          rw [seg_get _ _ _ _ hk] at h7
          simp [hk] at h6
          cases h7
          rw [← h6]
          exact .d (hus k (by omega)).2
        · rename_i ha
          cases he
          obtain ⟨hi, hlt⟩ := hs
          obtain ⟨us, hus⟩ := pick hi
          rw [hload 1 us (fun e => absurd e ha) (fun _ => Nat.one_pos) (fun j hj => (hus j (by omega)).1), if_neg ha]
          exact Ok.same I (.d (hus 0 (by omega)).2)
      · cases he
    · cases he
  | _ => simp [effLoad] at he
end
end Go.Proofs.Ytlhhibhcoefolaa.Eng
