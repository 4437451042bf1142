/- Appending, and values built of parts, on the small machine. -/
import Derived.Test.YtlhhibhcoefolaaEngOp3
namespace Go.Proofs.Ytlhhibhcoefolaa.Eng
open Go
set_option linter.unusedVariables false
set_option linter.unusedSimpArgs false
theorem Rd.one {w : World} {im : Nat → Prop} {u : Value} {x : Dat} (h : Rd w im u x) : u.oneCell' = true := by
  cases h <;> first | assumption | rfl
def byteRow (b : UInt8) : List Dat := [.v (.int .u8 b.toNat)]
def srcOf (P : Program) (h : Nat → Option AObj) (sz tx : Nat) : AV → Option (List (List Dat))
  | .row o _ => match h o, sliceOf P tx with
    | some (.row _ s ys), some _ => if s = sz then some ys else none
    | _, _ => none
  | .d (.sl s ys) => match sliceOf P tx with
    | some _ => if s = sz then some ys else none
    | none => none
  | .d (.v (.slice none 0 0)) => match sliceOf P tx with
    | some _ => some []
    | none => none
  | .d (.v (.slice (some _) 0 _)) => match sliceOf P tx with
    | some _ => some []
    | none => none
  | .d (.v (.string s)) => match ti P tx with
    | some T => match T.d with
      | .str => if sz = 1 then some (s.data.toList.map byteRow) else none
      | _ => none
    | none => none
  | _ => none
def effAppend (P : Program) (h : Nat → Option AObj) (d t tx : Nat) (s x : AV) : Option Eff :=
  match sliceOf P t with
  | some (e, E) => match srcOf P h E.sz tx x with
    | some ys => if E.sz = 0 ∨ E.by_ = 0 then none else
      match s with
      | .row o _ => match h o with
        | some (.row e' s' xs) => if e' = e ∧ s' = E.sz then some { sc := (xs.length + ys.length) * E.by_ ≤ 140737488355328, val := .row d (xs ++ ys).length, up := [(d, some (.row e s' (xs ++ ys))), (o, none)], new := true } else none
        | _ => none
      | .d (.v (.slice none 0 0)) => some { sc := ys.length * E.by_ ≤ 140737488355328, val := .row d ys.length, up := [(d, some (.row e E.sz ys))], new := true }
      | _ => none
    | none => none
  | none => none
section
variable {P : Program} {C : Ctx} {m : Nat → Value} {w : World} {hp : Hp} {d : Nat} {sc : Prop}
theorem split_idx {sz k : Nat} (h : 0 < sz) : k / sz * sz + k % sz = k ∧ k % sz < sz := ⟨by rw [Nat.mul_comm]; exact Nat.div_add_mod k sz, Nat.mod_lt _ h⟩
theorem idx_split {sz i j : Nat} (h : j < sz) : (i * sz + j) / sz = i ∧ (i * sz + j) % sz = j := by
  have h0 : 0 < sz := by omega
  constructor
  · rw [Nat.mul_comm, Nat.mul_add_div h0, Nat.div_eq_of_lt h, Nat.add_zero]
  · rw [Nat.mul_comm, Nat.mul_add_mod, Nat.mod_eq_of_lt h]
theorem src_ok (I : Inv C m w hp) {sz tx : Nat} {x : AV} {u : Value} {ys : List (List Dat)} (h0 : 0 < sz) (h : srcOf P hp.get sz tx x = some ys) (hx : Val w (im C m w hp) m u x) :
    ∃ news, Src P sz tx u ys.length news w ∧ (∀ (i : Nat) (r : List Dat), ys[i]? = some r → r.length = sz) ∧ ∀ (i j : Nat) (r : List Dat) (x : Dat), ys[i]? = some r → r[j]? = some x → ∃ u, news[i * sz + j]? = some u ∧ Rd w (im C m w hp) u x := by
  unfold srcOf at h
  split at h
  · rename_i o n
    split at h
    · rename_i e0 s ys' p ho hp'
      split at h
      · rename_i hs
        cases h
        subst hs
        obtain ⟨hk, _⟩ := sliceOf_info hp'
        obtain ⟨us, ⟨q0, q1⟩, q2, q3⟩ := I.live o _ ho
        cases hx with
        | @row _ _ cap a hm =>
        rw [hm] at q1
        rcases q1 with ⟨e, hn⟩ | ⟨g, cap', cur, e, _, hh, hle, _, hcs, htk⟩
        · injection e with e1 e2 e3
          subst e1 e2 e3
          have : ys = [] := List.eq_nil_of_length_eq_zero hn
          subst this
          exact ⟨[], Src.ofNil w hk 0, by simp, by simp⟩
        · injection e with e1 e2 e3
          subst e1 e2 e3
          have hcell : ∀ j u, us[j]? = some u → w.cell? ((⟨g, 0, none⟩ : Addr).add j) = some u := fun j u hu => by
            rw [addr_eta _ rfl]
            rw [← htk, List.getElem?_take] at hu
            split at hu
            · simp only [World.cell?, hh, Nat.zero_add]; simpa using hu
            · cases hu
          refine ⟨us, Src.ofSlice w hk _ _ _ us q0 hcell (fun u hu => ?_), q2, q3⟩
          obtain ⟨k, hk, e⟩ := List.getElem_of_mem hu
          obtain ⟨e1, e2⟩ := split_idx (k := k) h0
          have hlt : k / s < ys.length := by
            rw [q0] at hk
            exact Nat.div_lt_of_lt_mul (by rw [Nat.mul_comm]; exact hk)
          have hr := get_getD [] hlt
          obtain ⟨u', q4, q5⟩ := q3 (k / s) (k % s) _ _ hr (get_getD default (by rw [q2 _ _ hr]; exact e2))
          rw [e1, List.getElem?_eq_getElem hk, e] at q4
          cases q4
          exact q5.one
      · cases h
    · cases h
  · rename_i s ys'
    split at h
    · rename_i p hp'
      split at h
      · rename_i hs
        cases h
        subst hs
        obtain ⟨hk, _⟩ := sliceOf_info hp'
        cases hx with
        | d hx =>
        cases hx with
        | nil => exact ⟨[], Src.ofNil w hk 0, by simp, by simp⟩
        | @sl a len cap _ _ vs hs hl hc hi hz hw hr =>
          subst hl
          have get : ∀ k, k < ys.length * s → ∃ r x, ys[k / s]? = some r ∧ r[k % s]? = some x := fun k hk => by
            obtain ⟨e1, e2⟩ := split_idx (k := k) h0
            have hlt : k / s < ys.length := Nat.div_lt_of_lt_mul (by rw [Nat.mul_comm]; exact hk)
            have hr := get_getD [] hlt
            exact ⟨_, _, hr, get_getD default (by rw [hz _ _ hr]; exact e2)⟩
          refine ⟨(List.range (ys.length * s)).map fun k => vs (k / s) (k % s), Src.ofSlice w hk _ _ _ _ (by simp) (fun j u hu => ?_) (fun u hu => ?_), hz, fun i j r x q1 q2 => ?_⟩
          · rw [List.getElem?_map] at hu
            by_cases hj : j < ys.length * s
            · rw [List.getElem?_range hj] at hu
              cases hu
              obtain ⟨r, x, g1, g2⟩ := get j hj
              have := hw _ _ _ _ g1 g2
              rwa [(split_idx h0).1] at this
            · rw [List.getElem?_eq_none (by simpa using hj)] at hu
              cases hu
          · obtain ⟨k, hk, rfl⟩ := List.mem_map.1 hu
            obtain ⟨r, x, g1, g2⟩ := get k (List.mem_range.1 hk)
            exact (hr _ _ _ _ g1 g2).one
          · have hi : i < ys.length := (List.getElem?_eq_some_iff.1 q1).1
            have hj : j < s := by have := (List.getElem?_eq_some_iff.1 q2).1; rwa [hz _ _ q1] at this
            have hlt : i * s + j < ys.length * s := by have := Nat.mul_le_mul_right s (show i + 1 ≤ ys.length from hi); rw [Nat.add_mul, Nat.one_mul] at this; omega
            refine ⟨vs i j, ?_, hr _ _ _ _ q1 q2⟩
            rw [List.getElem?_map, List.getElem?_range hlt, Option.map_some, (idx_split hj).1, (idx_split hj).2]
      · cases h
    · cases h
  · split at h
    · rename_i p hp'
      cases h
      obtain ⟨hk, _⟩ := sliceOf_info hp'
      cases hx with
      | d hx =>
      cases hx
      exact ⟨[], Src.ofNil w hk 0, by simp, by simp⟩
    · cases h
  · split at h
    · rename_i p hp'
      cases h
      obtain ⟨hk, _⟩ := sliceOf_info hp'
      cases hx with
      | d hx =>
      cases hx
      exact ⟨[], Src.ofSlice w hk _ 0 _ [] (by simp) (by simp) (by simp), by simp, by simp⟩
    · cases h
  · rename_i s
    split at h
    · rename_i T hT
      split at h
      · rename_i hd
        split at h
        · rename_i hs
          cases h
          subst hs
          obtain ⟨dd, h1, h2⟩ := tyd_inv hT
          have h3 := tyd_str (h2.trans hd)
          subst h3
          cases hx with
          | d hx =>
          cases hx
          have hsz : (s.data.toList.map byteRow).length = s.size := by rw [List.length_map, Array.length_toList]; rfl
          rw [hsz]
          refine ⟨byteCells s, Src.ofString w h1 s, fun i r hr => ?_, fun i j r x q1 q2 => ?_⟩
          · rw [List.getElem?_map] at hr
            cases hb : s.data.toList[i]? with
            | none => rw [hb] at hr; cases hr
            | some b => rw [hb] at hr; cases hr; rfl
          · rw [List.getElem?_map] at q1
            cases hb : s.data.toList[i]? with
            | none => rw [hb] at q1; cases q1
            | some b =>
              rw [hb] at q1
              cases q1
              cases j with
              | zero =>
                cases q2
                refine ⟨.int .u8 b.toNat, ?_, .v rfl⟩
                rw [Nat.mul_one, Nat.add_zero, byteCells, List.getElem?_map, hb]
                rfl
              | succ j => simp [byteRow] at q2
        · cases h
      · cases h
    · cases h
  · cases h
theorem run_append_any {t tx ty e : Nat} {E : Ti} (hE : sliceOf P t = some (e, E)) (h0 : 0 < E.sz) (hb0 : 0 < E.by_) {v x : Value} {n k : Nat} {us news : List Value} (hown : w.ownsRow 0 e E.sz v n us) (hs : Src P E.sz tx x k news w) (hby : (n + k) * E.by_ ≤ 140737488355328) :
    ∃ v' w', (Builtin.append_ #[t, tx] ty #[v, x]).run P w = .ok v' w' ∧ w'.ownsRow 0 e E.sz v' (n + k) (us ++ news) ∧ w'.os = w.os ∧ w'.tape = w.tape ∧ w'.output = w.output ∧ w.heap.size ≤ w'.heap.size ∧
      (∀ b, b < w.heap.size → blk v' ≠ some b → w'.heap[b]? = w.heap[b]?) ∧ ∀ b, blk v' = some b → blk v = some b ∨ w.heap.size ≤ b := by
  obtain ⟨ht, hE'⟩ := sliceOf_info hE
  obtain ⟨i, d, z, hi, hu, _, hz, hsz, hbt, _, hzs, _⟩ := ti_info hE'
  rw [← hsz] at h0 hown hs hzs ⊢
  rw [← hbt] at hb0 hby
  have hnk : n + k ≤ 140737488355328 := Nat.le_trans (Nat.le_mul_of_pos_right _ hb0) hby
  have hlen : (us ++ news).length = (n + k) * i.size := by rw [List.length_append, hown.1, hs.newsLen, Nat.add_mul]
  have hmax : n + k ≤ maxLen := by simp only [maxLen]; omega
  have grown : ∀ (base : Option Addr) (cap : Nat), cap < n + k → (Builtin.firstCells i.size n (.slice base n cap)).run P w.drew = .ok us.toArray w.drew →
      ∃ v' w', (Builtin.append_ #[t, tx] ty #[.slice base n cap, x]).run P w = .ok v' w' ∧ w'.ownsRow 0 e i.size v' (n + k) (us ++ news) ∧ w'.os = w.os ∧ w'.tape = w.tape ∧ w'.output = w.output ∧ w.heap.size ≤ w'.heap.size ∧
        (∀ b, b < w.heap.size → blk v' ≠ some b → w'.heap[b]? = w.heap[b]?) ∧ ∀ b, blk v' = some b → w.heap.size ≤ b := fun base cap hg hold => by
    have hr := run_append_grow_src (P := P) w t tx ty e i z ht hi hz base n cap us hold x k news hs hg (by omega) (growslice_fits hg hby)
    have hge := grownCap_ge w (n + k) cap e
    refine ⟨_, _, hr, ⟨hlen, .inr ⟨w.heap.size, _, _, rfl, Nat.zero_le _, heap_alloc_new w.drew _, hge, grownCap_le_maxLen w (n + k) cap e hmax, ?_, ?_⟩⟩, rfl, rfl, rfl, by simp, fun b hb _ => heap_alloc_old w.drew _ b hb, fun b hb => by cases hb; exact Nat.le_refl _⟩
    · simp only [Array.size_append, List.size_toArray, size_zeroCells, hzs, hlen, ← Nat.add_mul]
      congr 1
      omega
    · simp only [Array.toList_append]
      rw [← hlen]
      exact List.take_left
  rcases hown.2 with ⟨rfl, rfl⟩ | ⟨g, cap, cur, rfl, _, hg, hnc, hcm, hcs, htk⟩
  · have hus : us = [] := List.eq_nil_of_length_eq_zero (by simpa using hown.1)
    subst hus
    by_cases hk : k = 0
    · subst hk
      have hnw : news = [] := List.eq_nil_of_length_eq_zero (by simpa using hs.newsLen)
      subst hnw
      refine ⟨.slice none 0 0, w, ?_, World.ownsRow_nil w 0 e i.size, rfl, rfl, rfl, Nat.le_refl _, fun _ _ _ => rfl, fun b hb => by cases hb⟩
      rcases hs.kind with ⟨e', hk⟩ | hk <;> simp [Builtin.append_, run_underlying ht, run_underlying hk, sizeOf, typeInfo, hi, hs.len, hs.cells]
    · obtain ⟨v', w', a1, a2, a3, a4, a5, a6, a7, a8⟩ := grown none 0 (by omega) (by rw [run_firstCells_none])
      exact ⟨v', w', a1, a2, a3, a4, a5, a6, a7, fun b hb => .inr (a8 b hb)⟩
  · by_cases hroom : n + k ≤ cap
    · have hfit : n * i.size + news.length ≤ cur.size := by rw [hs.newsLen, hcs, ← Nat.add_mul]; exact Nat.mul_le_mul_right _ hroom
      have hst := run_storeCells_at P g (n * i.size) e news 0 cur w hg (by simpa using hfit) hs.one
      simp only [Nat.add_zero] at hst
      refine ⟨.slice (some ⟨g, 0, none⟩) (n + k) cap, w.setRow g (cur.toList.take (n * i.size) ++ news ++ cur.toList.drop (n * i.size + news.length)).toArray, ?_, ⟨hlen, .inr ⟨g, cap, _, rfl, Nat.zero_le _, setRow_heap w g cur _ e _ hg, hroom, hcm, ?_, ?_⟩⟩, rfl, rfl, rfl, by simp, fun b hb hne => setRow_other w g b _ (fun e => hne (by rw [e]; rfl)), fun b hb => .inl hb⟩
      · rcases hs.kind with ⟨e', hk⟩ | hk <;> simp [Builtin.append_, run_underlying ht, run_underlying hk, sizeOf, typeInfo, hi, hs.len, hroom, hs.cells, Addr.add_lit, hst]
      · simp only [List.size_toArray, List.length_append, List.length_take, List.length_drop, Array.length_toList]
        omega
      · rw [htk, ← hlen]
        exact List.take_left
    · have hcell : ∀ j u, us[j]? = some u → w.drew.cell? ((⟨g, 0, none⟩ : Addr).add j) = some u := fun j u hu => by
        rw [addr_eta _ rfl]
        rw [← htk, List.getElem?_take] at hu
        split at hu
        · rw [World.cell?_drew]; simp only [World.cell?, hg, Nat.zero_add]; simpa using hu
        · cases hu
      obtain ⟨v', w', a1, a2, a3, a4, a5, a6, a7, a8⟩ := grown (some ⟨g, 0, none⟩) cap (by omega) (run_firstCells_some w.drew i.size n _ n cap us hown.1 hcell)
      exact ⟨v', w', a1, a2, a3, a4, a5, a6, a7, fun b hb => .inr (a8 b hb)⟩
theorem ownsRow_slice {e sz n : Nat} {v : Value} {us : List Value} (h : w.ownsRow 0 e sz v n us) : ∃ a cap, v = .slice a n cap := by
  rcases h.2 with ⟨rfl, rfl⟩ | ⟨g, cap, _, rfl, _⟩ <;> exact ⟨_, _, rfl⟩
theorem effAppend_ok (I : Inv C m w hp) {t tx ty : Nat} {s x : AV} {us ux : Value} {e : Eff} (he : effAppend P hp.get d t tx s x = some e) (hs : e.sc) (hf : e.new = true → Fr hp d) (hvs : Val w (im C m w hp) m us s) (hvx : Val w (im C m w hp) m ux x) :
    Ok C m w hp d e ((Builtin.append_ #[t, tx] ty #[us, ux]).run P w) := by
  unfold effAppend at he
  split at he
  case h_2 => cases he
  rename_i e0 E hE
  split at he
  case h_2 => cases he
  rename_i ys hys
  split at he
  · cases he
  rename_i hpos
  have h0 : 0 < E.sz := by omega
  have hb0 : 0 < E.by_ := by omega
  obtain ⟨news, hsrc, hz, hrd⟩ := src_ok I h0 hys hvx
  have main : ∀ (v : Value) (xs : List (List Dat)) (olds : List Value) (hp1 : Hp) (hsub : ∀ o obj, hp1.get o = some obj → hp.get o = some obj) (hown : w.ownsRow 0 e0 E.sz v xs.length olds)
      (hzx : ∀ (i : Nat) (r : List Dat), xs[i]? = some r → r.length = E.sz) (hrx : ∀ (i j : Nat) (r : List Dat) (x : Dat), xs[i]? = some r → r[j]? = some x → ∃ u, olds[i * E.sz + j]? = some u ∧ Rd w (im C m w hp) u x)
      (hbv : ∀ b, blk v = some b → (C.own0 b ∨ C.w0.heap.size ≤ b) ∧ ¬ im C m w hp b ∧ ∀ o obj, hp1.get o = some obj → o ≠ d → blk (m o) ≠ some b)
      (hby : (xs.length + ys.length) * E.by_ ≤ 140737488355328) (hf : Fr hp d),
      ∃ v' w' m', (Builtin.append_ #[t, tx] ty #[v, ux]).run P w = .ok v' w' ∧ (∀ o, o ≠ d → m' o = m o) ∧ Inv C m' w' ((d, some (.row e0 E.sz (xs ++ ys))) :: hp1) ∧ Val w' (im C m' w' ((d, some (.row e0 E.sz (xs ++ ys))) :: hp1)) m' v' (.row d (xs ++ ys).length) ∧
        ∀ b, im C m w hp b → im C m' w' ((d, some (.row e0 E.sz (xs ++ ys))) :: hp1) b ∧ w'.heap[b]? = w.heap[b]? := fun v xs olds hp1 hsub hown hzx hrx hbv hby hf => by
    obtain ⟨v', w', a1, a2, a3, a4, a5, a6, a7, a8⟩ := run_append_any (P := P) (ty := ty) hE h0 hb0 hown hsrc hby
    let m' : Nat → Value := fun o => if o = d then v' else m o
    have md : m' d = v' := if_pos rfl
    have mo : ∀ o, o ≠ d → m' o = m o := fun o h => if_neg h
    obtain ⟨I', k⟩ := I.put (m' := m') (w' := w') (hp1 := hp1) hsub d (.row e0 E.sz (xs ++ ys)) mo (.inr fun o' x' h' _ => (hf o' x' (hsub o' x' h')).2) a3 a4 a5 a6
      (fun k hk hne => a7 k hk (by rw [md] at hne; exact hne))
      (fun b hb => by
        rw [md] at hb
        rcases a8 b hb with h | h
        · exact hbv b h
        · obtain ⟨b1, b2, b3⟩ := I.new_blk hsub b h
          exact ⟨b1, b2, fun o obj ho _ => b3 o obj ho⟩)
      (fun im' hk => by
        have hl : olds.length = xs.length * E.sz := hown.1
        refine ⟨olds ++ news, by rw [md, List.length_append]; exact a2, fun i r hr => ?_, fun i j r x q1 q2 => ?_⟩
        · rw [List.getElem?_append] at hr
          split at hr
          · exact hzx i r hr
          · exact hz _ r hr
        · rw [List.getElem?_append] at q1
          split at q1
          · rename_i hi
            obtain ⟨u, q3, q4⟩ := hrx i j r x q1 q2
            exact ⟨u, by rw [List.getElem?_append_left (List.getElem?_eq_some_iff.1 q3).1]; exact q3, q4.mono hk⟩
          · rename_i hi
            obtain ⟨u, q3, q4⟩ := hrd _ j r x q1 q2
            have hm : xs.length * E.sz ≤ i * E.sz := Nat.mul_le_mul_right _ (by omega)
            refine ⟨u, ?_, q4.mono hk⟩
            rw [List.getElem?_append_right (by omega), hl, ← q3]
            congr 1
            rw [Nat.sub_mul]
            omega)
    obtain ⟨a, cap, hsl⟩ := ownsRow_slice a2
    refine ⟨v', w', m', a1, mo, I', ?_, k⟩
    rw [hsl, List.length_append]
    exact .row (by rw [md, hsl])
  split at he
  · rename_i o n
    split at he
    · rename_i e1 s1 xs ho
      split at he
      · rename_i hc
        obtain ⟨rfl, rfl⟩ := hc
        cases he
        obtain ⟨olds, q1, q2, q3⟩ := I.live o _ ho
        cases hvs with
        | @row _ _ cap a hm =>
        have hsub : ∀ o' obj, Hp.get ((o, none) :: hp) o' = some obj → hp.get o' = some obj := fun o' obj h => by
          rw [Hp.get_cons] at h
          split at h
          · cases h
          · exact h
        obtain ⟨v', w', m', b1, b2, b3, b4, b5⟩ := main (m o) xs olds ((o, none) :: hp) hsub q1 q2 q3 (fun b hb => ⟨I.own o _ b ho hb, I.not_im ho hb, fun o' x' ho' _ e => by
          have hne : o ≠ o' := fun q => by subst q; rw [Hp.get_cons, if_pos rfl] at ho'; cases ho'
          exact I.sep o o' _ x' b ho (hsub o' x' ho') hne hb e⟩) hs (hf rfl)
        rw [hm] at b1
        exact ⟨v', w', m', b1, fun o h => b2 o (h rfl), b3, b4, b5⟩
      · cases he
    · cases he
  · cases he
    cases hvs with
    | d hvs =>
    cases hvs
    obtain ⟨v', w', m', b1, b2, b3, b4, b5⟩ := main (.slice none 0 0) [] [] hp (fun _ _ h => h) (World.ownsRow_nil w 0 e0 E.sz) (by simp) (by simp) (fun b hb => by cases hb) (by simpa using hs) (hf rfl)
    exact ⟨v', w', m', b1, fun o h => b2 o (h rfl), b3, b4, b5⟩
  · cases he
end
end Go.Proofs.Ytlhhibhcoefolaa.Eng
