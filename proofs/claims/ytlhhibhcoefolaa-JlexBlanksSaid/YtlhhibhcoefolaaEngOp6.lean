/- New rows, on the small machine. -/
import Derived.Test.YtlhhibhcoefolaaEngOp5
namespace Go.Proofs.Ytlhhibhcoefolaa.Eng
open Go
section
variable {P : Program} {C : Ctx} {m : Nat → Value} {w : World} {hp : Hp} {d : Nat} {sc : Prop}
theorem Ok.newrow (I : Inv C m w hp) (hf : Fr hp d) {l : Hp} (hsub : ∀ o obj, Hp.get (l ++ hp) o = some obj → hp.get o = some obj) {w1 : World} (hos : w1.os = w.os) (htp : w1.tape = w.tape) (hout : w1.output = w.output) (hh : w1.heap = w.heap)
    {cur : Array Value} {e sz cap : Nat} {xs : List (List Dat)} (hsz : cur.size = cap * sz) (hn : xs.length ≤ cap) (hcap : cap ≤ maxLen)
    (hz : ∀ (i : Nat) (r : List Dat), xs[i]? = some r → r.length = sz) (hr : ∀ (i j : Nat) (r : List Dat) (x : Dat), xs[i]? = some r → r[j]? = some x → ∃ u, cur.toList[i * sz + j]? = some u ∧ Rd w (im C m w (l ++ hp)) u x) :
    Ok C m w hp d ⟨sc, .row d xs.length, (d, some (.row e sz xs)) :: l, true⟩ (.ok (.slice (some ⟨w.heap.size, 0, none⟩) xs.length cap) (w1.alloc (.cells cur e))) := by
  obtain ⟨I1, k1⟩ := I.drop hsub
  let m' : Nat → Value := fun o => if o = d then .slice (some ⟨w.heap.size, 0, none⟩) xs.length cap else m o
  have md : m' d = .slice (some ⟨w.heap.size, 0, none⟩) xs.length cap := if_pos rfl
  have mo : ∀ o, o ≠ d → m' o = m o := fun o h => if_neg h
  have hal : ∀ k : Nat, (w1.alloc (.cells cur e)).heap[k]? = (w.alloc (.cells cur e)).heap[k]? := fun k => by show (w1.heap.push _)[k]? = (w.heap.push _)[k]?; rw [hh]
  obtain ⟨I', k⟩ := I1.put (m' := m') (w' := w1.alloc (.cells cur e)) (hp1 := l ++ hp) (fun _ _ h => h) d (.row e sz xs) mo (.inr fun o x h _ => (hf o x (hsub o x h)).2) hos htp hout (by simp [hh])
    (fun k hk _ => by rw [hal]; exact heap_alloc_old w _ k hk)
    (fun b hb => by
      rw [md] at hb
      cases hb
      obtain ⟨h1, h2, h3⟩ := I1.new_blk (hp1 := l ++ hp) (fun _ _ h => h) w.heap.size (Nat.le_refl _)
      exact ⟨h1, h2, fun o x ho _ => h3 o x ho⟩)
    (fun im' h => by
      have hmul : xs.length * sz ≤ cap * sz := Nat.mul_le_mul_right _ hn
      refine ⟨cur.toList.take (xs.length * sz), ⟨by have : cur.toList.length = cap * sz := (by simpa using hsz); rw [List.length_take]; omega, .inr ⟨w.heap.size, cap, cur, md, Nat.zero_le _, by rw [hal]; exact heap_alloc_new w _, hn, hcap, hsz, rfl⟩⟩, hz, fun i j r x q1 q2 => ?_⟩
      obtain ⟨u, q3, q4⟩ := hr i j r x q1 q2
      have hi : i < xs.length := (List.getElem?_eq_some_iff.1 q1).1
      have hj : j < sz := by rw [← hz i r q1]; exact (List.getElem?_eq_some_iff.1 q2).1
      have := Nat.mul_le_mul_right sz (show i + 1 ≤ xs.length from hi)
      rw [Nat.add_mul, Nat.one_mul] at this
      exact ⟨u, by rw [List.getElem?_take, if_pos (by omega)]; exact q3, q4.mono h⟩)
  exact ⟨_, _, m', rfl, fun o ho => mo o (ho rfl), I', .row md, fun b h => ⟨(k b (k1 b h).1).1, (k b (k1 b h).1).2⟩⟩
theorem zero_arr {z : Value} {E : Ti} (h : z.cells.toList = E.z) (hs : z.cells.size = E.sz) (h0 : 0 < E.sz) (k : Nat) : ((Array.range k).map (z.cells[· % z.cells.size]!)).toList = seg (fun i => E.z.getD (i % E.sz) default) 0 k := by
  apply List.ext_getElem?
  intro i
  by_cases hi : i < k
  · rw [seg_get _ _ _ _ hi, Nat.zero_add]
    have hm : i % z.cells.size < z.cells.size := Nat.mod_lt _ (by omega)
    have e1 : E.z.getD (i % E.sz) default = z.cells[i % z.cells.size] := by
      rw [← hs, ← h]
      simp [hm]
    rw [e1]
    simp [hi, hm]
  · rw [List.getElem?_eq_none (by simp; omega), List.getElem?_eq_none (by rw [seg_length]; omega)]
theorem effBuildSlice_ok (I : Inv C m w hp) {t n : Nat} {parts : List (Nat × Value)} {avs : List (Nat × AV)} {e : Eff} (he : effBuildSlice P hp.get d t n avs = some e) (hl : parts.length = avs.length) (hf : e.new = true → Fr hp d)
    (hv : ∀ (i : Nat) (p : Nat × Value) (q : Nat × AV), parts[i]? = some p → avs[i]? = some q → p.1 = q.1 ∧ Val w (im C m w hp) m p.2 q.2) : Ok C m w hp d e ((Instr.buildSlice t n parts.toArray).run P w) := by
  unfold effBuildSlice at he
  split at he
  case h_2 => cases he
  rename_i e0 E hE
  obtain ⟨h1, h2⟩ := sliceOf_info hE
  obtain ⟨_, _, _, _, _, _, _, _, _, _, hzn, hone⟩ := ti_info h2
  obtain ⟨z, hz1, hz2⟩ := run_zero (P := P) (w := w) h2
  split at he
  case isFalse => cases he
  rename_i hle
  obtain ⟨hle, h0⟩ := hle
  split at he
  case h_2 => cases he
  rename_i cs hcs
  split at he
  case h_2 => cases he
  rename_i xs l hxs
  cases he
  have hf := hf rfl
  have hzlen : E.z.length = E.sz := by
    obtain ⟨_, _, z', _, _, _, _, _, _, e1, e2, _⟩ := ti_info h2
    rw [← e1]; simpa using e2
  have hzs : z.cells.size = E.sz := by rw [← hzlen, ← hz2]; simp
  have harr := fun k => zero_arr (E := E) hz2 hzs h0 k
  have hbase : (if n * E.sz = 0 then (#[] : Array Value) else z.cells) = z.cells ∨ n * E.sz = 0 := by by_cases h : n * E.sz = 0 <;> simp [h]
  let us0 : Array Value := (Array.range (n * E.sz)).map (z.cells[· % z.cells.size]!)
  obtain ⟨us', q1, q2, q3, q4, q5⟩ := fill_ok (w := w) (imp := im C m w hp) (m := m) (fun i => some (i * E.sz, E.sz)) parts avs us0 _ cs hl hv (by simp [us0, seg_length])
    (fun i u c e1 e2 => by
      rw [← Array.getElem?_toList, harr] at e1
      have hi : i < n * E.sz := by have := (List.getElem?_eq_some_iff.1 e1).1; rwa [seg_length] at this
      rw [seg_get _ _ _ _ hi] at e1 e2
      cases e1
      cases e2
      refine .d (.v (List.all_eq_true.1 hone _ ?_))
      rw [getD_some (List.getElem?_eq_getElem (by rw [hzlen]; exact Nat.mod_lt _ h0))]
      exact List.getElem_mem _)
    (List.all_eq_true.2 fun c hc => by
      obtain ⟨i, hi, e⟩ := List.getElem_of_mem hc
      have q := List.getElem?_eq_getElem hi
      rw [seg_length] at hi
      rw [e, seg_get _ _ _ _ hi] at q
      cases q
      rfl) hcs
  rw [seg_length] at q3
  have hxl : xs.length = n * E.sz := by rw [toDs_length hxs, q3]
  have hrun : (Instr.buildSlice t n parts.toArray).run P w = .ok (.slice (some ⟨w.heap.size, 0, none⟩) n n) (w.alloc (.cells us' e0)) := by
    have hnl : ¬ (16777216 < n * E.sz) := by omega
    simp only [Instr.buildSlice, Sem.run_bind, run_underlying h1, Result.andThen_ok, run_sizeOf h2]
    rw [show (2 : Nat) ^ 24 = 16777216 from rfl, if_neg (by omega)]
    by_cases hz0 : n * E.sz = 0
    · rw [if_pos hz0]
      have : us0 = (Array.range (n * E.sz)).map ((#[] : Array Value)[· % (#[] : Array Value).size]!) := by
        simp only [us0, hz0]; simp
      rw [this] at q1
      simp only [Sem.run_pure, Result.andThen_ok, q1, Sem.run_bind, newRow, run_newObj]
      rfl
    · rw [if_neg hz0]
      simp only [Sem.run_bind, hz1, Sem.run_pure, Result.andThen_ok]
      rw [show Instr.fill (fun i => some (i * E.sz, E.sz)) (Array.map (fun x => z.cells[x % z.cells.size]!) (Array.range (n * E.sz))) parts = some us' from q1]
      simp only [Sem.run_bind, newRow, run_newObj, Result.andThen_ok, Sem.run_pure]
      rfl
  rw [hrun]
  have hmax : n ≤ maxLen := by
    have : n ≤ n * E.sz := Nat.le_mul_of_pos_right _ h0
    simp only [maxLen]; omega
  have hget : ∀ i r, (chunk E.sz n xs)[i]? = some r → i < n ∧ r = (xs.drop (i * E.sz)).take E.sz := fun i r h => by
    have hi : i < n := by have := (List.getElem?_eq_some_iff.1 h).1; rwa [chunk_length] at this
    rw [chunk_get _ _ _ _ hi] at h
    cases h
    exact ⟨hi, rfl⟩
  have hmul : ∀ i, i < n → i * E.sz + E.sz ≤ n * E.sz := fun i hi => by have := Nat.mul_le_mul_right E.sz (show i + 1 ≤ n from hi); rwa [Nat.add_mul, Nat.one_mul] at this
  have res := Ok.newrow (sc := True) I hf (l := drops l) (drops_sub l hp) (w1 := w) rfl rfl rfl rfl (cur := us') (e := e0) (sz := E.sz) (cap := n) (xs := chunk E.sz n xs) (by rw [q2, q3]) (by rw [chunk_length]; exact Nat.le_refl _) hmax
    (fun i r h => by
      obtain ⟨hi, rfl⟩ := hget i r h
      have := hmul i hi
      rw [List.length_take, List.length_drop]; omega)
    (fun i j r x h k => by
      obtain ⟨hi, rfl⟩ := hget i r h
      have := hmul i hi
      have hj : j < E.sz := by have := (List.getElem?_eq_some_iff.1 k).1; rw [List.length_take] at this; omega
      rw [List.getElem?_take, if_pos hj, List.getElem?_drop] at k
      obtain ⟨c, l1, p1, p2, p3⟩ := toDs_get hxs _ x k
      have hlt : i * E.sz + j < us'.size := by rw [q2, q3]; omega
      refine ⟨us'.toList.getD (i * E.sz + j) default, get_getD _ (by simpa using hlt), ?_⟩
      have hvc := q4 (i * E.sz + j) (us'.toList.getD (i * E.sz + j) default) c (by simp [hlt]) p1
      exact toD_rd I p2 hvc (drops_sub l hp) fun o' ho' => by rw [drops_get, if_pos (p3 o' ho')])
  rw [chunk_length] at res
  exact res
theorem effMakeSlice_ok (I : Inv C m w hp) {t : Nat} {a b : AV} {ua ub : Value} {e : Eff} (he : effMakeSlice P d t a b = some e) (hs : e.sc) (hf : e.new = true → Fr hp d) (ha : Val w (im C m w hp) m ua a) (hb : Val w (im C m w hp) m ub b) :
    Ok C m w hp d e ((Instr.makeSlice t ua ub).run P w) := by
  unfold effMakeSlice at he
  split at he
  case h_2 => cases he
  rename_i n c
  split at he
  case h_2 => cases he
  rename_i e0 E hE
  split at he
  case isFalse => cases he
  rename_i hpos
  obtain ⟨h0, hb0⟩ := hpos
  cases he
  obtain ⟨g0, g1, g2⟩ := hs
  have hf := hf rfl
  cases ha with
  | d ha =>
  cases ha
  cases hb with
  | d hb =>
  cases hb
  obtain ⟨h1, h2⟩ := sliceOf_info hE
  obtain ⟨i, _, z', hi, _, _, _, _, hby, e1, e2, hone⟩ := ti_info h2
  obtain ⟨z, hz1, hz2⟩ := run_zero (P := P) (w := w) h2
  have hzlen : E.z.length = E.sz := by rw [← e1]; simpa using e2
  have hzs : z.cells.size = E.sz := by rw [← hzlen, ← hz2]; simp
  have hc0 : c ≤ c * (E.by_ : Int) := by
    have : c * 1 ≤ c * (E.by_ : Int) := Int.mul_le_mul_of_nonneg_left (by omega) (by omega)
    omega
  have wn : IntKind.i64.wrap n = n := by rw [IntKind.wrap_i64]; omega
  have wc : IntKind.i64.wrap c = c := by rw [IntKind.wrap_i64]; omega
  have hrun : (Instr.makeSlice t (.int .i64 n) (.int .i64 c)).run P w = .ok (.slice (some ⟨w.heap.size, 0, none⟩) n.toNat c.toNat) (w.alloc (.cells ((Array.range (c.toNat * E.sz)).map (z.cells[· % z.cells.size]!)) e0)) := by
    have hbig : ¬ ((E.by_ : Int) * c > 281474976710656) := by rw [Int.mul_comm]; omega
    have t1 : (decide (c < 0) || decide ((E.by_ : Int) * c > 2 ^ 48) || decide (n < 0) || decide (n > c)) = false := by
      rw [show (2 : Int) ^ 48 = 281474976710656 from rfl]
      simp only [Bool.or_eq_false_iff, decide_eq_false_iff_not]
      omega
    simp only [Instr.makeSlice, Sem.run_bind, run_underlying h1, Result.andThen_ok, asInt, asIntOf, Sem.run_pure, typeInfo, run_program, hi, hby, wn, wc, t1, Bool.false_eq_true, if_false, run_askRoom, sizeOf]
    have hsz : i.size = E.sz := by obtain ⟨i', _, _, hi', _, _, _, hs', _⟩ := ti_info h2; rw [hi] at hi'; cases hi'; exact hs'
    rw [hsz]
    by_cases hz0 : c.toNat * E.sz = 0
    · rw [if_pos hz0]
      have e0 : ∀ f : Nat → Value, (Array.range 0).map f = #[] := fun f => by simp
      simp only [Sem.run_pure, Result.andThen_ok, Sem.run_bind, newRow, run_newObj, hz0, e0]
      rfl
    · rw [if_neg hz0]
      simp only [Sem.run_bind, hz1, Sem.run_pure, Result.andThen_ok, newRow, run_newObj]
      rfl
  rw [hrun]
  have hrow : ∀ (i : Nat) (r : List Dat), (List.replicate n.toNat (E.z.map fun u => Dat.v u))[i]? = some r → i < n.toNat ∧ r = E.z.map fun u => .v u := fun i r h => by
    rw [List.getElem?_replicate] at h
    split at h
    · rename_i hi; cases h; exact ⟨hi, rfl⟩
    · cases h
  have res := Ok.newrow (sc := 0 ≤ n ∧ n ≤ c ∧ c * (E.by_ : Int) ≤ 281474976710656) I hf (l := []) (fun _ _ h => h) (w1 := w) rfl rfl rfl rfl (cur := (Array.range (c.toNat * E.sz)).map (z.cells[· % z.cells.size]!)) (e := e0) (sz := E.sz) (cap := c.toNat) (xs := List.replicate n.toNat (E.z.map fun u => .v u)) (by simp) (by simp; omega) (by simp only [maxLen]; omega)
    (fun i r h => by rw [(hrow i r h).2]; simp [hzlen])
    (fun i j r x h k => by
      obtain ⟨hi, rfl⟩ := hrow i r h
      rw [List.getElem?_map] at k
      cases hu : E.z[j]? with
      | none => rw [hu] at k; cases k
      | some u =>
        rw [hu] at k
        cases k
        have hj : j < E.sz := by rw [← hzlen]; exact (List.getElem?_eq_some_iff.1 hu).1
        have hm : i * E.sz + j < c.toNat * E.sz := by have := Nat.mul_le_mul_right E.sz (show i + 1 ≤ c.toNat by omega); rw [Nat.add_mul, Nat.one_mul] at this; omega
        refine ⟨u, ?_, .v (List.all_eq_true.1 hone u (List.mem_of_getElem? hu))⟩
        rw [zero_arr hz2 hzs h0, seg_get _ _ _ _ hm, Nat.zero_add, (idx_split hj).2, getD_some hu])
  rw [List.length_replicate] at res
  exact res
end
end Go.Proofs.Ytlhhibhcoefolaa.Eng
