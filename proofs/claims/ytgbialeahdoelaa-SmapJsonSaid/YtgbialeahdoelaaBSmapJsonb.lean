/- SmapJson: part 2 of 15. -/
import Derived.Test.YtgbialeahdoelaaBSmapJsona
import Derived.Lib.ConvBytes
import Derived.Laws.BytesArg
import Derived.Laws.Build
import Derived.Laws.StructEq
import Derived.Deep.LoopGhost
section
namespace Go.Proofs.Ytgbialeahdoelaa.Eng
open Go
section
variable {P : Program} {C : Ctx} {m : Nat → Value} {w : World} {hp : Hp} {d : Nat} {sc : Prop}
theorem Ok.newrow (I : Inv C m w hp) (hf : Fr hp d) {l : Hp} (hsub : ∀ o obj, Hp.get (l ++ hp) o = some obj → hp.get o = some obj) {w1 : World} (hos : w1.os = w.os) (htp : w1.tape = w.tape) (hout : w1.output = w.output) (hh : w1.heap = w.heap)
  {cur : Array Value} {e sz cap : Nat} {xs : List (List Dat)} (hsz : cur.size = cap * sz) (hn : xs.length ≤ cap) (hcap : cap ≤ maxLen)
  (hz : ∀ (i : Nat) (r : List Dat), xs[i]? = some r → r.length = sz) (hr : ∀ (i j : Nat) (r : List Dat) (x : Dat), xs[i]? = some r → r[j]? = some x → ∃ u, cur.toList[i * sz + j]? = some u ∧ Rd w (im C m w (l ++ hp)) u x) :
  Ok C m w hp d ⟨sc, .row d xs.length, (d, some (.row e sz xs)) :: l, true⟩ (.ok (.slice (some ⟨w.heap.size, 0, none⟩) xs.length cap) (w1.alloc (.cells cur e))) := by
 obtain ⟨I1, k1⟩ := I.drop hsub
 let m' : Nat → Value := fun o => if o = d then .slice (some ⟨w.heap.size, 0, none⟩) xs.length cap else m o
 have md : m' d = .slice (some ⟨w.heap.size, 0, none⟩) xs.length cap := if_pos rfl
 have mo : ∀ o, o ≠ d → m' o = m o := fun o h => if_neg h
 have hal : ∀ k : Nat, (w1.alloc (.cells cur e)).heap[k]? = (w.alloc (.cells cur e)).heap[k]? := fun k => by show (w1.heap.push _)[k]? = (w.heap.push _)[k]?; rw [hh]
 obtain ⟨I', k⟩ := I1.put (m' := m') (w' := w1.alloc (.cells cur e)) (hp1 := l ++ hp) (fun _ _ h => h) d (.row e sz xs) mo (.inr fun o x h _ => (hf o x (hsub o x h)).2) hos htp hout (by simp [hh])
  (fun k hk _ => by rw [hal]; exact heap_alloc_old w _ k hk)
  (fun b hb => by
   rw [md] at hb
   cases hb
   obtain ⟨h1, h2, h3⟩ := I1.new_blk (hp1 := l ++ hp) (fun _ _ h => h) w.heap.size (Nat.le_refl _)
   exact ⟨h1, h2, fun o x ho _ => h3 o x ho⟩)
  (fun im' h => by
   have hmul : xs.length * sz ≤ cap * sz := Nat.mul_le_mul_right _ hn
   refine ⟨cur.toList.take (xs.length * sz), ⟨by have : cur.toList.length = cap * sz := (by simpa using hsz); rw [List.length_take]; omega, .inr ⟨w.heap.size, cap, cur, md, Nat.zero_le _, by rw [hal]; exact heap_alloc_new w _, hn, hcap, hsz, rfl⟩⟩, hz, fun i j r x q1 q2 => ?_⟩
   obtain ⟨u, q3, q4⟩ := hr i j r x q1 q2
   have hi : i < xs.length := (List.getElem?_eq_some_iff.1 q1).1
   have hj : j < sz := by rw [← hz i r q1]; exact (List.getElem?_eq_some_iff.1 q2).1
   have := Nat.mul_le_mul_right sz (show i + 1 ≤ xs.length from hi)
   rw [Nat.add_mul, Nat.one_mul] at this
   exact ⟨u, by rw [List.getElem?_take, if_pos (by omega)]; exact q3, q4.mono h⟩)
 exact ⟨_, _, m', rfl, fun o ho => mo o (ho rfl), I', .row md, fun b h => ⟨(k b (k1 b h).1).1, (k b (k1 b h).1).2⟩⟩
theorem zero_arr {z : Value} {E : Ti} (h : z.cells.toList = E.z) (hs : z.cells.size = E.sz) (h0 : 0 < E.sz) (k : Nat) : ((Array.range k).map (z.cells[· % z.cells.size]!)).toList = seg (fun i => E.z.getD (i % E.sz) default) 0 k := by
 apply List.ext_getElem?
 intro i
 by_cases hi : i < k
 ·rw [seg_get _ _ _ _ hi, Nat.zero_add]
  have hm : i % z.cells.size < z.cells.size := Nat.mod_lt _ (by omega)
  have e1 : E.z.getD (i % E.sz) default = z.cells[i % z.cells.size] := by
   rw [← hs, ← h]
   simp [hm]
  rw [e1]
  simp [hi, hm]
 ·rw [List.getElem?_eq_none (by simp; omega), List.getElem?_eq_none (by rw [seg_length]; omega)]
theorem effBuildSlice_ok (I : Inv C m w hp) {t n : Nat} {parts : List (Nat × Value)} {avs : List (Nat × AV)} {e : Eff} (he : effBuildSlice P hp.get d t n avs = some e) (hl : parts.length = avs.length) (hf : e.new = true → Fr hp d)
  (hv : ∀ (i : Nat) (p : Nat × Value) (q : Nat × AV), parts[i]? = some p → avs[i]? = some q → p.1 = q.1 ∧ Val w (im C m w hp) m p.2 q.2) : Ok C m w hp d e ((Instr.buildSlice t n parts.toArray).run P w) := by
 unfold effBuildSlice at he
 split at he
 case h_2 => cases he
 rename_i e0 E hE
 obtain ⟨h1, h2⟩ := sliceOf_info hE
 obtain ⟨_, _, _, _, _, _, _, _, _, _, hzn, hone⟩ := ti_info h2
 obtain ⟨z, hz1, hz2⟩ := run_zero (P := P) (w := w) h2
 split at he
 case isFalse => cases he
 rename_i hle
 obtain ⟨hle, h0⟩ := hle
 split at he
 case h_2 => cases he
 rename_i cs hcs
 split at he
 case h_2 => cases he
 rename_i xs l hxs
 cases he
 have hf := hf rfl
 have hzlen : E.z.length = E.sz := by
  obtain ⟨_, _, z', _, _, _, _, _, _, e1, e2, _⟩ := ti_info h2
  rw [← e1]; simpa using e2
 have hzs : z.cells.size = E.sz := by rw [← hzlen, ← hz2]; simp
 have harr := fun k => zero_arr (E := E) hz2 hzs h0 k
 have hbase : (if n * E.sz = 0 then (#[] : Array Value) else z.cells) = z.cells ∨ n * E.sz = 0 := by by_cases h : n * E.sz = 0 <;> simp [h]
 let us0 : Array Value := (Array.range (n * E.sz)).map (z.cells[· % z.cells.size]!)
 obtain ⟨us', q1, q2, q3, q4, q5⟩ := fill_ok (w := w) (imp := im C m w hp) (m := m) (fun i => some (i * E.sz, E.sz)) parts avs us0 _ cs hl hv (by simp [us0, seg_length])
  (fun i u c e1 e2 => by
   rw [← Array.getElem?_toList, harr] at e1
   have hi : i < n * E.sz := by have := (List.getElem?_eq_some_iff.1 e1).1; rwa [seg_length] at this
   rw [seg_get _ _ _ _ hi] at e1 e2
   cases e1
   cases e2
   refine .d (.v (List.all_eq_true.1 hone _ ?_))
   rw [getD_some (List.getElem?_eq_getElem (by rw [hzlen]; exact Nat.mod_lt _ h0))]
   exact List.getElem_mem _)
  (List.all_eq_true.2 fun c hc => by
   obtain ⟨i, hi, e⟩ := List.getElem_of_mem hc
   have q := List.getElem?_eq_getElem hi
   rw [seg_length] at hi
   rw [e, seg_get _ _ _ _ hi] at q
   cases q
   rfl) hcs
 rw [seg_length] at q3
 have hxl : xs.length = n * E.sz := by rw [toDs_length hxs, q3]
 have hrun : (Instr.buildSlice t n parts.toArray).run P w = .ok (.slice (some ⟨w.heap.size, 0, none⟩) n n) (w.alloc (.cells us' e0)) := by
  have hnl : ¬ (16777216 < n * E.sz) := by omega
  simp only [Instr.buildSlice, Sem.run_bind, run_underlying h1, Result.andThen_ok, run_sizeOf h2]
  rw [show (2 : Nat) ^ 24 = 16777216 from rfl, if_neg (by omega)]
  by_cases hz0 : n * E.sz = 0
  ·rw [if_pos hz0]
   have : us0 = (Array.range (n * E.sz)).map ((#[] : Array Value)[· % (#[] : Array Value).size]!) := by
    simp only [us0, hz0]; simp
   rw [this] at q1
   simp only [Sem.run_pure, Result.andThen_ok, q1, Sem.run_bind, newRow, run_newObj]
   rfl
  ·rw [if_neg hz0]
   simp only [Sem.run_bind, hz1, Sem.run_pure, Result.andThen_ok]
   rw [show Instr.fill (fun i => some (i * E.sz, E.sz)) (Array.map (fun x => z.cells[x % z.cells.size]!) (Array.range (n * E.sz))) parts = some us' from q1]
   simp only [Sem.run_bind, newRow, run_newObj, Result.andThen_ok, Sem.run_pure]
   rfl
 rw [hrun]
 have hmax : n ≤ maxLen := by
  have : n ≤ n * E.sz := Nat.le_mul_of_pos_right _ h0
  simp only [maxLen]; omega
 have hget : ∀ i r, (chunk E.sz n xs)[i]? = some r → i < n ∧ r = (xs.drop (i * E.sz)).take E.sz := fun i r h => by
  have hi : i < n := by have := (List.getElem?_eq_some_iff.1 h).1; rwa [chunk_length] at this
  rw [chunk_get _ _ _ _ hi] at h
  cases h
  exact ⟨hi, rfl⟩
 have hmul : ∀ i, i < n → i * E.sz + E.sz ≤ n * E.sz := fun i hi => by have := Nat.mul_le_mul_right E.sz (show i + 1 ≤ n from hi); rwa [Nat.add_mul, Nat.one_mul] at this
 have res := Ok.newrow (sc := True) I hf (l := drops l) (drops_sub l hp) (w1 := w) rfl rfl rfl rfl (cur := us') (e := e0) (sz := E.sz) (cap := n) (xs := chunk E.sz n xs) (by rw [q2, q3]) (by rw [chunk_length]; exact Nat.le_refl _) hmax
  (fun i r h => by
   obtain ⟨hi, rfl⟩ := hget i r h
   have := hmul i hi
   rw [List.length_take, List.length_drop]; omega)
  (fun i j r x h k => by
   obtain ⟨hi, rfl⟩ := hget i r h
   have := hmul i hi
   have hj : j < E.sz := by have := (List.getElem?_eq_some_iff.1 k).1; rw [List.length_take] at this; omega
   rw [List.getElem?_take, if_pos hj, List.getElem?_drop] at k
   obtain ⟨c, l1, p1, p2, p3⟩ := toDs_get hxs _ x k
   have hlt : i * E.sz + j < us'.size := by rw [q2, q3]; omega
   refine ⟨us'.toList.getD (i * E.sz + j) default, get_getD _ (by simpa using hlt), ?_⟩
   have hvc := q4 (i * E.sz + j) (us'.toList.getD (i * E.sz + j) default) c (by simp [hlt]) p1
   exact toD_rd I p2 hvc (drops_sub l hp) fun o' ho' => by rw [drops_get, if_pos (p3 o' ho')])
 rw [chunk_length] at res
 exact res
theorem effMakeSlice_ok (I : Inv C m w hp) {t : Nat} {a b : AV} {ua ub : Value} {e : Eff} (he : effMakeSlice P d t a b = some e) (hs : e.sc) (hf : e.new = true → Fr hp d) (ha : Val w (im C m w hp) m ua a) (hb : Val w (im C m w hp) m ub b) :
  Ok C m w hp d e ((Instr.makeSlice t ua ub).run P w) := by
 unfold effMakeSlice at he
 split at he
 case h_2 => cases he
 rename_i n c
 split at he
 case h_2 => cases he
 rename_i e0 E hE
 split at he
 case isFalse => cases he
 rename_i hpos
 obtain ⟨h0, hb0⟩ := hpos
 cases he
 obtain ⟨g0, g1, g2⟩ := hs
 have hf := hf rfl
 cases ha with
 | d ha =>
 cases ha
 cases hb with
 | d hb =>
 cases hb
 obtain ⟨h1, h2⟩ := sliceOf_info hE
 obtain ⟨i, _, z', hi, _, _, _, _, hby, e1, e2, hone⟩ := ti_info h2
 obtain ⟨z, hz1, hz2⟩ := run_zero (P := P) (w := w) h2
 have hzlen : E.z.length = E.sz := by rw [← e1]; simpa using e2
 have hzs : z.cells.size = E.sz := by rw [← hzlen, ← hz2]; simp
 have hc0 : c ≤ c * (E.by_ : Int) := by
  have : c * 1 ≤ c * (E.by_ : Int) := Int.mul_le_mul_of_nonneg_left (by omega) (by omega)
  omega
 have wn : IntKind.i64.wrap n = n := by rw [IntKind.wrap_i64]; omega
 have wc : IntKind.i64.wrap c = c := by rw [IntKind.wrap_i64]; omega
 have hrun : (Instr.makeSlice t (.int .i64 n) (.int .i64 c)).run P w = .ok (.slice (some ⟨w.heap.size, 0, none⟩) n.toNat c.toNat) (w.alloc (.cells ((Array.range (c.toNat * E.sz)).map (z.cells[· % z.cells.size]!)) e0)) := by
  have hbig : ¬ ((E.by_ : Int) * c > 281474976710656) := by rw [Int.mul_comm]; omega
  have t1 : (decide (c < 0) || decide ((E.by_ : Int) * c > 2 ^ 48) || decide (n < 0) || decide (n > c)) = false := by
   rw [show (2 : Int) ^ 48 = 281474976710656 from rfl]
   simp only [Bool.or_eq_false_iff, decide_eq_false_iff_not]
   omega
  simp only [Instr.makeSlice, Sem.run_bind, run_underlying h1, Result.andThen_ok, asInt, asIntOf, Sem.run_pure, typeInfo, run_program, hi, hby, wn, wc, t1, Bool.false_eq_true, if_false, run_askRoom, sizeOf]
  have hsz : i.size = E.sz := by obtain ⟨i', _, _, hi', _, _, _, hs', _⟩ := ti_info h2; rw [hi] at hi'; cases hi'; exact hs'
  rw [hsz]
  by_cases hz0 : c.toNat * E.sz = 0
  ·rw [if_pos hz0]
   have e0 : ∀ f : Nat → Value, (Array.range 0).map f = #[] := fun f => by simp
   simp only [Sem.run_pure, Result.andThen_ok, Sem.run_bind, newRow, run_newObj, hz0, e0]
   rfl
  ·rw [if_neg hz0]
   simp only [Sem.run_bind, hz1, Sem.run_pure, Result.andThen_ok, newRow, run_newObj]
   rfl
 rw [hrun]
 have hrow : ∀ (i : Nat) (r : List Dat), (List.replicate n.toNat (E.z.map fun u => Dat.v u))[i]? = some r → i < n.toNat ∧ r = E.z.map fun u => .v u := fun i r h => by
  rw [List.getElem?_replicate] at h
  split at h
  ·rename_i hi; cases h; exact ⟨hi, rfl⟩
  ·cases h
 have res := Ok.newrow (sc := 0 ≤ n ∧ n ≤ c ∧ c * (E.by_ : Int) ≤ 281474976710656) I hf (l := []) (fun _ _ h => h) (w1 := w) rfl rfl rfl rfl (cur := (Array.range (c.toNat * E.sz)).map (z.cells[· % z.cells.size]!)) (e := e0) (sz := E.sz) (cap := c.toNat) (xs := List.replicate n.toNat (E.z.map fun u => .v u)) (by simp) (by simp; omega) (by simp only [maxLen]; omega)
  (fun i r h => by rw [(hrow i r h).2]; simp [hzlen])
  (fun i j r x h k => by
   obtain ⟨hi, rfl⟩ := hrow i r h
   rw [List.getElem?_map] at k
   cases hu : E.z[j]? with
   | none => rw [hu] at k; cases k
   | some u =>
    rw [hu] at k
    cases k
    have hj : j < E.sz := by rw [← hzlen]; exact (List.getElem?_eq_some_iff.1 hu).1
    have hm : i * E.sz + j < c.toNat * E.sz := by have := Nat.mul_le_mul_right E.sz (show i + 1 ≤ c.toNat by omega); rw [Nat.add_mul, Nat.one_mul] at this; omega
    refine ⟨u, ?_, .v (List.all_eq_true.1 hone u (List.mem_of_getElem? hu))⟩
    rw [zero_arr hz2 hzs h0, seg_get _ _ _ _ hm, Nat.zero_add, (idx_split hj).2, getD_some hu])
 rw [List.length_replicate] at res
 exact res
end
end Go.Proofs.Ytgbialeahdoelaa.Eng

end

section
namespace Go.Proofs.Ytgbialeahdoelaa.Eng
open Go
def vInt (k : IntKind) (n : Int) : AV := .d (.v (.int k n))
def vBool (b : Bool) : AV := .d (.v (.bool b))
def vStr (s : ByteArray) : AV := .d (.v (.string s))
def leafEq : TyD → AV → AV → Option Bool
 | .int _, .d (.v (.int k a)), .d (.v (.int k' b)) => if k = k' then some (a == b) else none
 | .bool, .d (.v (.bool a)), .d (.v (.bool b)) => some (a == b)
 | .str, .d (.v (.string a)), .d (.v (.string b)) => some (a.toList == b.toList)
 | _, _, _ => none
def fieldsEq (P : Program) (xs ys : List AV) : List (Nat × Nat) → Option Bool
 | [] => some true
 | (o, t) :: fs => match ti P t with
  | some T => if T.d.agg then none else
   if o < xs.length ∧ o < ys.length then
    match leafEq T.d (xs.getD o .bad) (ys.getD o .bad), fieldsEq P xs ys fs with
    | some a, some b => some (a && b)
    | _, _ => none else none
  | none => none
def plainEq (P : Program) (t : Nat) : Bool := !(P.eqGuardType P.depth t) && !(P.stoodInHeld t) && (match P.underlying t with | some (.struct fs) => fs.all fun f => f.name != "_" | _ => false)
def eqAV (P : Program) (t : Nat) (x y : AV) : Option Bool :=
 match ti P t with
 | some T => match T.d, x, y with
  | .struct fs, .agg xs, .agg ys => if plainEq P t then fieldsEq P xs ys fs else none
  | .bool, .d (.v (.bool a)), .d (.v (.bool b)) => some (a == b)
  | .slice _, .d (.v (.slice a _ _)), .d (.v (.slice none _ _)) => some a.isNone
  | .slice _, .d (.sl _ (_ :: _)), .d (.v (.slice none _ _)) => some false
  | _, _, _ => none
 | none => none
def effBin (P : Program) (op : BinOp) (t : Nat) (x y : AV) : Option Eff :=
 match x, y with
 | .d (.v (.int k a)), .d (.v (.int k' b)) => match op with
  | .shl => some { sc := 0 ≤ b, val := vInt k (k.wrap (a * 2 ^ (min b.toNat k.bits))) }
  | .shr => some { sc := 0 ≤ b, val := vInt k (a.fdiv (2 ^ (min b.toNat k.bits))) }
  | .add => if k = k' then some { sc := True, val := vInt k (k.wrap (a + b)) } else none
  | .sub => if k = k' then some { sc := True, val := vInt k (k.wrap (a - b)) } else none
  | .mul => if k = k' then some { sc := True, val := vInt k (k.wrap (a * b)) } else none
  | .quo => if k = k' then some { sc := b ≠ 0, val := vInt k (k.wrap (a.tdiv b)) } else none
  | .rem => if k = k' then some { sc := b ≠ 0, val := vInt k (a.tmod b) } else none
  | .and => if k = k' then some { sc := True, val := vInt k (bits .and k a b) } else none
  | .or => if k = k' then some { sc := True, val := vInt k (bits .or k a b) } else none
  | .xor => if k = k' then some { sc := True, val := vInt k (bits .xor k a b) } else none
  | .andNot => if k = k' then some { sc := True, val := vInt k (bits .andNot k a b) } else none
  | .eql => if k = k' then some { sc := True, val := vBool (a == b) } else none
  | .neq => if k = k' then some { sc := True, val := vBool (a != b) } else none
  | .lss => if k = k' then some { sc := True, val := vBool (decide (a < b)) } else none
  | .leq => if k = k' then some { sc := True, val := vBool (decide (a ≤ b)) } else none
  | .gtr => if k = k' then some { sc := True, val := vBool (decide (a > b)) } else none
  | .geq => if k = k' then some { sc := True, val := vBool (decide (a ≥ b)) } else none
 | .d (.v (.string a)), .d (.v (.string b)) => match op with
  | .add => some { sc := ((a.size + b.size : Nat) : Int) ≤ 9223372036854775807, val := vStr (a ++ b) }
  | .eql => some { sc := True, val := vBool (a.toList == b.toList) }
  | .neq => some { sc := True, val := vBool (!(a.toList == b.toList)) }
  | .lss => some { sc := True, val := vBool (Op.bytesLess a.toList b.toList) }
  | _ => none
 | x, y => match op, eqAV P t x y with
  | .eql, some b => some { sc := True, val := vBool b }
  | .neq, some b => some { sc := True, val := vBool (!b) }
  | _, _ => none
def isIface (P : Program) (t : Nat) : Bool := match P.underlying t with | some (.interface _) => true | _ => false
def isConst : Operand → Bool
 | .const _ => true
 | _ => false
def effBinC (P : Program) (op : BinOp) (t : Nat) (c : Bool) (x y : AV) : Option Eff :=
 match x with
 | .d (.v (.int k a)) => effBin P op t (.d (.v (.int k a))) y
 | .d (.v (.string a)) => effBin P op t (.d (.v (.string a))) y
 | .d (.v (.bool a)) => effBin P op t (.d (.v (.bool a))) y
 | .d (.sl n xs) => effBin P op t (.d (.sl n xs)) y
 | .agg cs => effBin P op t (.agg cs) y
 | .d (.v .nilIface) => match y with
  | .d (.v .nilIface) => if c = true then if isIface P t = true then
   match op with
   | .eql => some { sc := True, val := vBool true }
   | .neq => some { sc := True, val := vBool false }
   | _ => none else none else none
  | _ => none
 | x => effBin P op t x y
def effUn (op : UnOp) : AV → Option Eff
 | .d (.v (.int k n)) => match op with
  | .neg => some { sc := True, val := vInt k (k.wrap (0 - n)) }
  | _ => none
 | .d (.v (.bool b)) => match op with
  | .not => some { sc := True, val := vBool (!b) }
  | _ => none
 | _ => none
def byteOf : List Dat → Int
 | [.v (.int .u8 n)] => n
 | _ => -1
def effConv (P : Program) (h : Nat → Option AObj) (src dst : Nat) (x : AV) : Option Eff :=
 match ti P src, ti P dst with
 | some S, some D => match D.d, x with
  | .int k, .d (.v (.int _ n)) => some { sc := True, val := vInt k (k.wrap n) }
  | .str, .d (.v (.int _ n)) => some { sc := True, val := vStr (Utf8.encode n) }
  | .str, .d (.v (.string s)) => some { sc := True, val := vStr s }
  | .slice e, .d (.v (.string s)) => match ti P e with
   | some E => match E.d with
    | .int .u8 => some { sc := True, val := .d (.sl 1 (s.data.toList.map byteRow)) }
    | _ => none
   | none => none
  | .str, .d (.sl sz xs) => match S.d with
   | .slice e => match ti P e with
    | some E => match E.d with
     | .int .u8 => if sz = 1 then some { sc := ∀ r ∈ xs, r = [.v (.int .u8 (byteOf r))], val := vStr (strOfNums (xs.map byteOf)) } else none
     | _ => none
    | none => none
   | _ => none
  | .str, .row o _ => match S.d, h o with
   | .slice e, some (.row _ sz xs) => match ti P e with
    | some E => match E.d with
     | .int .u8 => if sz = 1 then some { sc := ∀ r ∈ xs, r = [.v (.int .u8 (byteOf r))], val := vStr (strOfNums (xs.map byteOf)) } else none
     | _ => none
    | none => none
   | _, _ => none
  | .slice e, .row o _ => match S.d, h o, ti P e with
   | .slice _, some (.row _ sz (x :: xs)), some E => match E.d with
    | .int .u8 => if src = dst then some { sc := True, val := .d (.sl sz (x :: xs)), up := [(o, none)] } else none
    | _ => none
   | _, _, _ => none
  | _, _ => none
 | _, _ => none
def fold1 (f : Int → Int → Int) (k : IntKind) (a : Int) : List AV → Option Int
 | [] => some a
 | .d (.v (.int k' b)) :: l => if k = k' then fold1 f k (f a b) l else none
 | _ => none
def mx (a b : Int) : Int := if b > a then b else a
def mn (a b : Int) : Int := if b < a then b else a
def effFold (f : Int → Int → Int) : List AV → Option Eff
 | .d (.v (.int k a)) :: l => match fold1 f k a l with
  | some n => some { sc := True, val := vInt k n }
  | none => none
 | _ => none
def effNil : AV → Option Eff
 | .ptr o off => some { sc := True, val := .ptr o off }
 | .ep cs off => some { sc := True, val := .ep cs off }
 | .rp o sz i off => some { sc := True, val := .rp o sz i off }
 | .fn f cs => some { sc := True, val := .fn f cs }
 | _ => none
def strip : List Bool → List Bool → AV → AV
 | [], [], c => c
 | [], g :: gs, c => .gd (g :: gs) c
 | _ :: _, [], c => c
 | h :: hs, g :: gs, c => if g = h then strip hs gs c else .bad
def unw (G : List Bool) : AV → AV
 | .gd gs c => strip G gs c
 | c => c
def effPick (c a b : AV) : Option Eff :=
 match c with
 | .d (.v (.bool c)) => match unw [c] a, unw [!c] b with
  | .d (.v (.bool x)), .d (.v (.bool y)) => some { sc := True, val := vBool (if c then x else y) }
  | a, b => some { sc := True, val := if c then a else b }
 | _ => none
section
variable {P : Program} {C : Ctx} {m : Nat → Value} {w : World} {hp : Hp} {d : Nat} {sc : Prop}
theorem strip_val {im : Nat → Prop} : ∀ {G gs : List Bool}, allB G = true → ∀ {u : Value} {c : AV}, (allB gs = true → Val w im m u c) → (allB gs = false → u = undef) → Val w im m u (strip G gs c)
 | [], [], _, u, c, h, _ => h rfl
 | [], _ :: _, _, u, c, h, hn => .gd h hn
 | _ :: _, [], _, u, c, h, _ => h rfl
 | a :: G, g :: gs, hG, u, c, h, hn => by
  simp only [strip]
  split
  ·rename_i e
   subst e
   simp only [allB, Bool.and_eq_true] at hG
   exact strip_val hG.2 (fun hg => h (by simp [allB, hG.1, hg])) (fun hg => hn (by simp [allB, hg]))
  ·exact .bad _
theorem unw_val {im : Nat → Prop} {G : List Bool} (hG : allB G = true) {u : Value} {c : AV} (h : Val w im m u c) : Val w im m u (unw G c) := by
 cases h with
 | gd h hn => exact strip_val hG h hn
 | _ => simp only [unw]; constructor <;> assumption
theorem effUn_ok (I : Inv C m w hp) {op : UnOp} {x : AV} {u : Value} {e : Eff} (he : effUn op x = some e) (hx : Val w (im C m w hp) m u x) : Ok C m w hp d e ((Op.unary op u).run P w) := by
 unfold effUn at he
 split at he
 ·cases hx with | d hx => cases hx; cases op <;> first | (cases he; exact Ok.same I (.d (.v rfl))) | cases he
 ·cases hx with | d hx => cases hx; cases op <;> first | (cases he; exact Ok.same I (.d (.v rfl))) | cases he
 ·cases he
theorem effNil_ok (I : Inv C m w hp) {o : Oper} {ρ : Operand → Value} {x : Operand} {a : AV} {e : Eff} (ho : o.op = .nilCheck x) (he : effNil a = some e) (hx : Val w (im C m w hp) m (ρ x) a) : ∃ u, (execOp ρ o).run P w = .ok (.value u) w ∧ Ok C m w hp d e (.ok u w) := by
 unfold execOp
 rw [ho]
 simp only
 generalize ρ x = u at hx
 cases hx with
 | ptr hm => cases he; exact ⟨_, rfl, Ok.same I (.ptr hm)⟩
 | ep vs h1 h2 h3 h4 => cases he; exact ⟨_, rfl, Ok.same I (.ep vs h1 h2 h3 h4)⟩
 | rp hm => cases he; exact ⟨_, rfl, Ok.same I (.rp hm)⟩
 | fn h1 h2 => cases he; exact ⟨_, rfl, Ok.same I (.fn h1 h2)⟩
 | _ => cases he
theorem effPick_ok (I : Inv C m w hp) {c a b : AV} {uc ua ub : Value} {e : Eff} (he : effPick c a b = some e) (hc : Val w (im C m w hp) m uc c) (ha : Val w (im C m w hp) m ua a) (hb : Val w (im C m w hp) m ub b) :
  Ok C m w hp d e ((do pure (if ← asBool uc then ua else ub) : Sem Value).run P w) := by
 unfold effPick at he
 split at he
 ·cases hc with
  | d hc =>
  cases hc
  simp only [asBool, Sem.run_bind, Sem.run_pure, Result.andThen_ok]
  rename_i c _
  have undv : ∀ {g : Bool} {u : Value} {c : AV}, g = true → Val w (im C m w hp) m u c → Val w (im C m w hp) m u (unw [g] c) := fun {g u c} hg h => unw_val (by simp [allB, hg]) h
  split at he
  ·rename_i x y hx hy
   cases he
   cases c
   ·have := undv (g := !false) rfl hb
    rw [hy] at this
    exact Ok.same I this
   ·have := undv (g := true) rfl ha
    rw [hx] at this
    exact Ok.same I this
  ·cases he
   cases c
   ·exact Ok.same I (undv (g := !false) rfl hb)
   ·exact Ok.same I (undv (g := true) rfl ha)
 ·cases he
theorem fold_ok {im : Nat → Prop} (f : Int → Int → Int) (g : Value → Value → Sem Value) (hg : ∀ k a b w, (g (.int k a) (.int k b)).run P w = .ok (.int k (f a b)) w) :
  ∀ (l : List AV) (us : List Value) (k : IntKind) (a n : Int), us.length = l.length → (∀ (i : Nat) (u : Value) (c : AV), us[i]? = some u → l[i]? = some c → Val w im m u c) → fold1 f k a l = some n → (us.foldlM g (.int k a)).run P w = .ok (.int k n) w
 | [], [], k, a, n, _, _, h => by cases h; rfl
 | c :: l, u :: us, k, a, n, hl, hv, h => by
  have h0 := hv 0 u c rfl rfl
  unfold fold1 at h
  split at h
  ·rename_i e; cases e
  ·rename_i k' b l' e
   cases e
   split at h
   ·rename_i hk
    subst hk
    cases h0 with
    | d h0 =>
    cases h0
    simp only [List.foldlM_cons, Sem.run_bind, hg, Result.andThen_ok]
    exact fold_ok f g hg l us k (f a b) n (by simpa using hl) (fun i u c h1 h2 => hv (i + 1) u c (by simpa using h1) (by simpa using h2)) h
   ·cases h
  ·cases h
 | [], _ :: _, _, _, _, hl, _, _ => by simp at hl
 | _ :: _, [], _, _, _, hl, _, _ => by simp at hl
theorem effFold_ok (I : Inv C m w hp) {f : Int → Int → Int} {g : Value → Value → Sem Value} (hg : ∀ k a b w, (g (.int k a) (.int k b)).run P w = .ok (.int k (f a b)) w) {l : List AV} {us : Array Value} {e : Eff} (he : effFold f l = some e) (hl : us.size = l.length)
  (hv : ∀ (i : Nat) (u : Value) (c : AV), us[i]? = some u → l[i]? = some c → Val w (im C m w hp) m u c) : ∃ x rest, us.toList = x :: rest ∧ Ok C m w hp d e ((rest.foldlM g x).run P w) := by
 unfold effFold at he
 split at he
 ·rename_i k a l
  split at he
  ·rename_i n hn
   cases he
   obtain ⟨us⟩ := us
   cases us with
   | nil => simp at hl
   | cons x rest =>
    refine ⟨x, rest, rfl, ?_⟩
    have h0 := hv 0 x _ rfl rfl
    cases h0 with
    | d h0 =>
    cases h0
    rw [fold_ok f g hg l rest k a n (by simpa using hl) (fun i u c h1 h2 => hv (i + 1) u c (by simpa using h1) (by simpa using h2)) hn]
    exact Ok.same I (.d (.v rfl))
  ·cases he
 ·cases he
theorem tyd_int {d : TypeDesc} {k : IntKind} (h : tyd d = .int k) : d = .int k := by cases d <;> simp [tyd] at h; rw [h]
theorem tyd_bool {d : TypeDesc} (h : tyd d = .bool) : d = .bool := by cases d <;> simp [tyd] at h; rfl
theorem bytes_run {S D E : Ti} {src dst e : Nat} (hS : ti P src = some S) (hD : ti P dst = some D) (hE : ti P e = some E) (h1 : S.d = .slice e) (h2 : D.d = .str) (h3 : E.d = .int .u8) {imp : Nat → Prop} {u : Value} {xs : List (List Dat)} (hr : Rd w imp u (.sl 1 xs))
  (hb : ∀ r ∈ xs, r = [.v (.int .u8 (byteOf r))]) : (convert src dst u).run P w = .ok (.string (strOfNums (xs.map byteOf))) w := by
 obtain ⟨d1, a1, a2⟩ := tyd_inv hS
 obtain ⟨d2, b1, b2⟩ := tyd_inv hD
 obtain ⟨d3, c1, c2⟩ := tyd_inv hE
 have e1 := tyd_slice (a2.trans h1)
 have e2 := tyd_str (b2.trans h2)
 have e3 := tyd_int (c2.trans h3)
 subst e1 e2 e3
 cases hr with
 | nil => rw [run_convert_bytes_nil w src e a1 c1 0 0 dst b1]; rfl
 | @sl a len cap _ _ vs hs hl hc hi hz hw hr =>
  subst hl
  by_cases hne : xs = []
  ·subst hne
   rw [run_convert_bytes_string w src dst e (some a) _ cap a1 c1 b1, run_bytesToString w a _ cap [] (by simp [loadCells, loadCellsFrom])]
   rfl
  replace hs := hs hne
  obtain ⟨b, off, s⟩ := a
  simp only at hs
  subst hs
  refine run_convert_bytes_arg w src e a1 c1 b off xs.length cap (xs.map byteOf) (by simp) (fun i hi => ?_) dst b1
  have hr1 := get_getD [] hi
  have hrow := hb _ (List.mem_of_getElem? hr1)
  have hx : (xs.getD i [])[0]? = some (.v (.int .u8 (byteOf (xs.getD i [])))) := by rw [hrow]; rfl
  have g1 := hw i 0 _ _ hr1 hx
  have g2 := hr i 0 _ _ hr1 hx
  generalize vs i 0 = q at g1 g2
  cases g2
  rw [addr_eta _ rfl] at g1
  simp only [Nat.mul_one, Nat.add_zero] at g1
  rw [g1]
  have : (xs.map byteOf).getD i 0 = byteOf (xs.getD i []) := by simp [hi]
  rw [this]
theorem cell_freeze (w : World) (a b : Addr) (n : Nat) : (w.freeze a n).cell? b = w.cell? b := by
 unfold World.freeze
 split
 ·rfl
 ·simp only [World.cell?, Array.getElem?_modify]
  by_cases e : a.block = b.block
  ·rw [if_pos e]
   cases w.heap[b.block]? with
   | none => rfl
   | some o => cases o <;> rfl
  ·rw [if_neg e]
theorem Rd.cells {w w' : World} {im im' : Nat → Prop} (h : ∀ b, im b → im' b) (hc : ∀ a, w'.cell? a = w.cell? a) {u : Value} {x : Dat} (r : Rd w im u x) : Rd w' im' u x := by
 induction r with
 | v h => exact .v h
 | nil sz => exact .nil sz
 | sl vs hs hl hcp hi hz hw _ ih => exact .sl vs hs hl hcp (fun hx => h _ (hi hx)) hz (fun i j r x q1 q2 => by rw [hc]; exact hw i j r x q1 q2) (fun i j r x q1 q2 => ih i j r x q1 q2)
theorem run_convert_mark {src e : Nat} (h1 : P.underlying src = some (.slice e)) (h2 : P.underlying e = some (.int .u8)) {a : Addr} {n cap : Nat} {cs : Array Value} {et : Nat} {fz : Nat × Nat} (hh : w.heap[a.block]? = some (.cells cs et fz)) :
  (convert src src (.slice (some a) n cap)).run P w = .ok (.slice (some a) n cap) (w.freeze ⟨a.block, cs.size, none⟩ 1) := by
 have hsh : w.shape? a.block = some (et, cs.size) := by simp [World.shape?, hh]
 simp [convert, run_underlying h1, run_underlying h2, markStringish, hsh]
theorem freeze_same (w : World) (a : Addr) (n : Nat) : (w.freeze a n).os = w.os ∧ (w.freeze a n).tape = w.tape ∧ (w.freeze a n).output = w.output ∧ (w.freeze a n).heap.size = w.heap.size ∧ ∀ k, k ≠ a.block → (w.freeze a n).heap[k]? = w.heap[k]? := by
 unfold World.freeze
 split
 ·exact ⟨rfl, rfl, rfl, rfl, fun _ _ => rfl⟩
 ·refine ⟨rfl, rfl, rfl, by simp, fun k hk => ?_⟩
  simp only [Array.getElem?_modify]
  rw [if_neg (fun e => hk e.symm)]
theorem effConv_ok (I : Inv C m w hp) {src dst : Nat} {x : AV} {u : Value} {e : Eff} (he : effConv P hp.get src dst x = some e) (hs : e.sc) (hx : Val w (im C m w hp) m u x) : Ok C m w hp d e ((convert src dst u).run P w) := by
 unfold effConv at he
 split at he
 case h_2 => cases he
 rename_i S D hS hD
 obtain ⟨d1, a1, a2⟩ := tyd_inv hS
 obtain ⟨d2, b1, b2⟩ := tyd_inv hD
 split at he
 ·rename_i k k' n hd
  cases he
  have e2 := tyd_int (b2.trans hd)
  subst e2
  cases hx with
  | d hx =>
  cases hx
  have : (convert src dst (.int k' n)).run P w = .ok (.int k (k.wrap n)) w := by
   simp only [convert, Sem.run_bind, run_underlying a1, run_underlying b1, Result.andThen_ok]
   cases d1 <;> rfl
  rw [this]
  exact Ok.same I (.d (.v rfl))
 ·rename_i k' n hd
  cases he
  have e2 := tyd_str (b2.trans hd)
  subst e2
  cases hx with
  | d hx =>
  cases hx
  have : (convert src dst (.int k' n)).run P w = .ok (.string (Utf8.encode n)) w := by
   simp only [convert, Sem.run_bind, run_underlying a1, run_underlying b1, Result.andThen_ok]
   cases d1 <;> rfl
  rw [this]
  exact Ok.same I (.d (.v rfl))
 ·rename_i s hd
  cases he
  have e2 := tyd_str (b2.trans hd)
  subst e2
  cases hx with
  | d hx =>
  cases hx
  have : (convert src dst (.string s)).run P w = .ok (.string s) w := by
   simp only [convert, Sem.run_bind, run_underlying a1, run_underlying b1, Result.andThen_ok]
   cases d1 <;> rfl
  rw [this]
  exact Ok.same I (.d (.v rfl))
 ·rename_i e0 s hd
  split at he
  case h_2 => cases he
  rename_i E hE
  split at he
  case h_2 => cases he
  rename_i hEd
  cases he
  have e2 := tyd_slice (b2.trans hd)
  subst e2
  obtain ⟨d3, c1, c2⟩ := tyd_inv hE
  have e3 := tyd_int (c2.trans hEd)
  subst e3
  cases hx with
  | d hx =>
  cases hx
  rw [Lib.run_convert_string_bytes w src dst e0 s a1 b1 c1]
  obtain ⟨I', k⟩ := I.ext (w' := Lib.bytesWorld w e0 s) (by unfold Lib.bytesWorld World.freeze; split <;> rfl) (by unfold Lib.bytesWorld World.freeze; split <;> rfl) (by unfold Lib.bytesWorld World.freeze; split <;> rfl) (by rw [Lib.bytesWorld_size]; omega) (fun k hk => Lib.bytesWorld_at_old w e0 s k hk)
  have hlen : (s.data.toList.map byteRow).length = s.size := by rw [List.length_map, Array.length_toList]; rfl
  have hrow : ∀ (i : Nat) (r : List Dat), (s.data.toList.map byteRow)[i]? = some r → i < s.size ∧ r = [.v (.int .u8 (s.data.toList.getD i 0).toNat)] := fun i r h => by
   have hi : i < s.size := by rw [← hlen]; exact (List.getElem?_eq_some_iff.1 h).1
   rw [List.getElem?_map, get_getD 0 (by rw [Array.length_toList]; exact hi)] at h
   cases h
   exact ⟨hi, rfl⟩
  refine ⟨_, _, m, rfl, fun _ _ => rfl, I', .d (.sl (fun i _ => .int .u8 (s.data.toList.getD i 0).toNat) (fun _ => rfl) hlen.symm (grownCap_ge w s.size 0 e0) (fun _ => ⟨by rw [Lib.bytesWorld_size]; show w.heap.size < _; omega, .inr (.inr I.size), fun o x ho e => ?_⟩) (fun i r h => ?_) (fun i j r x h k => ?_) (fun i j r x h k => ?_)), k⟩
  ·have := (I.live o x ho).blk_lt _ e
   exact absurd this (by show ¬ (w.heap.size < _); omega)
  ·rw [(hrow i r h).2]; rfl
  ·obtain ⟨hi, rfl⟩ := hrow i r h
   cases j with
   | zero => rw [addr_eta _ rfl, Nat.mul_one, Nat.add_zero, Nat.zero_add]; exact Lib.bytesWorld_cell w e0 s i hi
   | succ j => simp at k
  ·obtain ⟨hi, rfl⟩ := hrow i r h
   cases j with
   | zero => cases k; exact .v rfl
   | succ j => simp at k
 ·rename_i sz xs hd
  split at he
  case h_2 => cases he
  rename_i e0 hSd
  split at he
  case h_2 => cases he
  rename_i E hE
  split at he
  case h_2 => cases he
  rename_i hEd
  split at he
  case isFalse => cases he
  rename_i hsz
  subst hsz
  cases he
  cases hx with
  | d hx =>
  rw [bytes_run hS hD hE hSd hd hEd hx hs]
  exact Ok.same I (.d (.v rfl))
 ·rename_i o n hd
  split at he
  case h_2 => cases he
  rename_i e0 e1 sz xs hSd ho
  split at he
  case h_2 => cases he
  rename_i E hE
  split at he
  case h_2 => cases he
  rename_i hEd
  split at he
  case isFalse => cases he
  rename_i hsz
  subst hsz
  cases he
  cases hx with
  | @row _ _ cap a hm =>
  have hsub : ∀ o' obj, Hp.get ((o, none) :: hp) o' = some obj → hp.get o' = some obj := fun o' obj h => by
   rw [Hp.get_cons] at h
   split at h
   ·cases h
   ·exact h
  have hrd := row_rd I ho hsub (by rw [Hp.get_cons, if_pos rfl])
  rw [hm] at hrd
  rw [bytes_run hS hD hE hSd hd hEd hrd hs]
  exact Ok.same I (.d (.v rfl))
 ·rename_i e0 o n hd
  split at he
  case h_2 => cases he
  rename_i e1 e2 sz r xs E hSd ho hE
  split at he
  case h_2 => cases he
  rename_i hEd
  split at he
  case isFalse => cases he
  rename_i hst
  subst hst
  cases he
  have e2 := tyd_slice (b2.trans hd)
  subst e2
  obtain ⟨d3, c1, c2⟩ := tyd_inv hE
  have e3 := tyd_int (c2.trans hEd)
  subst e3
  cases hx with
  | @row _ _ cap a hm =>
  have hsub : ∀ o' obj, Hp.get ((o, none) :: hp) o' = some obj → hp.get o' = some obj := fun o' obj h => by
   rw [Hp.get_cons] at h
   split at h
   ·cases h
   ·exact h
  have hrd := row_rd I ho hsub (by rw [Hp.get_cons, if_pos rfl])
  obtain ⟨us, q1, _, _⟩ := I.live o _ ho
  rcases q1.2 with ⟨_, h0⟩ | ⟨g, cap', cur, hv, _, hh, _, _, _, _⟩
  ·cases h0
  rw [hm] at hv
  cases hv
  have hg : blk (m o) = some g := by rw [hm]; rfl
  rw [run_convert_mark b1 c1 hh]
  obtain ⟨f1, f2, f3, f4, f5⟩ := freeze_same w ⟨g, cur.size, none⟩ 1
  have hgo := I.own o _ g ho hg
  have hnim : ¬ im C m w hp g := I.not_im ho hg
  have himm : ∀ b, im C m w ((o, none) :: hp) b → im C m (w.freeze ⟨g, cur.size, none⟩ 1) ((o, none) :: hp) b := fun b h => ⟨by rw [f4]; exact h.1, h.2⟩
  have hk : ∀ b, im C m w hp b → im C m (w.freeze ⟨g, cur.size, none⟩ 1) ((o, none) :: hp) b ∧ (w.freeze ⟨g, cur.size, none⟩ 1).heap[b]? = w.heap[b]? := fun b h =>
   ⟨himm b ((I.drop hsub).2 b h).1, f5 b (fun e => hnim ((show b = g from e) ▸ h))⟩
  refine ⟨_, _, m, rfl, fun _ _ => rfl, ⟨f1.trans I.os, f2.trans I.tape, f3.trans I.output, by rw [f4]; exact I.size, fun b h1 h2 => ?_, fun o' x ho' => ?_, fun o1 o2 x1 x2 b h1 h2 => I.sep o1 o2 x1 x2 b (hsub _ _ h1) (hsub _ _ h2), fun o' x b ho' => I.own o' x b (hsub _ _ ho')⟩, ?_, hk⟩
  ·rw [f5 b (fun e => by
    have e : b = g := e
    rcases hgo with h | h
    ·exact h2 (e ▸ h)
    ·omega)]
   exact I.frame b h1 h2
  ·replace ho' : Hp.get ((o, none) :: hp) o' = some x := ho'
   have hne : o ≠ o' := fun q => by subst q; rw [Hp.get_cons, if_pos rfl] at ho'; cases ho'
   exact (I.live o' x (hsub o' x ho')).mono hk (fun b hb => f5 b fun e => by
    have e : b = g := e
    exact I.sep o o' _ x g ho (hsub o' x ho') hne hg (e ▸ hb)) rfl (fun _ _ => rfl)
  ·rw [hm] at hrd
   exact .d (hrd.cells himm fun a => cell_freeze w _ a 1)
 ·cases he
theorem guard_int (op : BinOp) (t : Nat) (x y : Operand) (k k' : IntKind) (a b : Int) : (eqGuard op t x y (.int k a) (.int k' b)).run P w = .ok () w := by cases op <;> simp [eqGuard]
theorem guard_str (op : BinOp) (t : Nat) (x y : Operand) (a b : ByteArray) : (eqGuard op t x y (.string a) (.string b)).run P w = .ok () w := by cases op <;> simp [eqGuard]
theorem guard_bool (op : BinOp) (t : Nat) (x y : Operand) (a b : Bool) : (eqGuard op t x y (.bool a) (.bool b)).run P w = .ok () w := by cases op <;> simp [eqGuard]
theorem nil_eq {t e : Nat} {a : Option Addr} {n c n' c' : Nat} (h : P.underlying t = some (.slice e)) (ox oy : Operand) :
  (do eqGuard .eql t ox oy (.slice a n c) (.slice none n' c'); binOp .eql t (.slice a n c) (.slice none n' c') : Sem Value).run P w = .ok (.bool a.isNone) w ∧ (do eqGuard .neq t ox oy (.slice a n c) (.slice none n' c'); binOp .neq t (.slice a n c) (.slice none n' c') : Sem Value).run P w = .ok (.bool (!a.isNone)) w := by
 have he : (Op.equalIn (9999 + 1) t (.slice a n c) (.slice none n' c')).run P w = .ok a.isNone w := by
  generalize 9999 = d
  cases a <;> simp [Op.equalIn, run_underlying h]
 constructor
 ·simp only [Sem.run_bind, show (eqGuard .eql t ox oy (.slice a n c) (.slice none n' c')).run P w = .ok () w by simp [eqGuard], Result.andThen_ok, binOp, Op.equal, Op.maxDepth, he, Sem.run_pure]
 ·simp only [Sem.run_bind, show (eqGuard .neq t ox oy (.slice a n c) (.slice none n' c')).run P w = .ok () w by simp [eqGuard], Result.andThen_ok, binOp, Op.equal, Op.maxDepth, he, Sem.run_pure]
theorem leaf_ok {imp : Nat → Prop} {t : Nat} {T : Ti} (hT : ti P t = some T) (dep : Nat) {x y : AV} {ux uy : Value} {b : Bool} (h : leafEq T.d x y = some b) (hx : Val w imp m ux x) (hy : Val w imp m uy y) : (Op.equalIn (dep + 1) t ux uy).run P w = .ok b w := by
 obtain ⟨dd, h1, h2⟩ := tyd_inv hT
 unfold leafEq at h
 split at h
 ·rename_i hd
  have := tyd_int (h2.trans hd)
  subst this
  split at h
  ·rename_i hk
   subst hk
   cases h
   cases hx with
   | d hx =>
   cases hx
   cases hy with
   | d hy =>
   cases hy
   exact run_equalIn_int w dep t _ _ _ _ h1
  ·cases h
 ·rename_i hd
  have := tyd_bool (h2.trans hd)
  subst this
  cases h
  cases hx with
  | d hx =>
  cases hx
  cases hy with
  | d hy =>
  cases hy
  exact run_equalIn_bool' w dep t _ _ h1
 ·rename_i hd
  have := tyd_str (h2.trans hd)
  subst this
  cases h
  cases hx with
  | d hx =>
  cases hx
  cases hy with
  | d hy =>
  cases hy
  exact run_equalIn_string w dep t _ _ h1
 ·cases h
theorem fields_ok {imp : Nat → Prop} (dep : Nat) {ux uy : Array Value} {xs ys : List AV} (hnx : ux.size = xs.length) (hny : uy.size = ys.length) (hx : ∀ (i : Nat) (u : Value) (c : AV), ux[i]? = some u → xs[i]? = some c → Val w imp m u c)
  (hy : ∀ (i : Nat) (u : Value) (c : AV), uy[i]? = some u → ys[i]? = some c → Val w imp m u c) : ∀ (fs : List Field) (b : Bool), (∀ f ∈ fs, (f.name != "_") = true) → fieldsEq P xs ys (fs.map fun f => (f.offset, f.type)) = some b → (Op.eqFields (dep + 1) ux uy fs).run P w = .ok b w
 | [], b, _, h => by cases h; simp [Op.eqFields]
 | f :: fs, b, hn, h => by
  simp only [List.map_cons, fieldsEq] at h
  split at h
  case h_2 => cases h
  rename_i T hT
  split at h
  ·cases h
  rename_i hagg
  split at h
  case isFalse => cases h
  rename_i ho
  split at h
  case h_2 => cases h
  rename_i a b' h1 h2
  cases h
  have gx : ux[f.offset]? = some (ux.getD f.offset default) := by simp [hnx, ho.1]
  have gy : uy[f.offset]? = some (uy.getD f.offset default) := by simp [hny, ho.2]
  have px : (part f.type ux f.offset).run P w = .ok (ux.getD f.offset default) w := by
   simp only [part, Sem.run_bind, run_isAgg hT, Result.andThen_ok, hagg, Bool.false_eq_true, if_false, gx, Sem.run_pure]
  have py : (part f.type uy f.offset).run P w = .ok (uy.getD f.offset default) w := by
   simp only [part, Sem.run_bind, run_isAgg hT, Result.andThen_ok, hagg, Bool.false_eq_true, if_false, gy, Sem.run_pure]
  have he := leaf_ok hT dep h1 (hx _ _ _ gx (get_getD _ ho.1)) (hy _ _ _ gy (get_getD _ ho.2))
  have hr := fields_ok dep hnx hny hx hy fs b' (fun f hf => hn f (List.mem_cons_of_mem _ hf)) h2
  have hn' : f.name ≠ "_" := by simpa using hn f List.mem_cons_self
  rw [Op.eqFields]
  simp only [if_pos hn', Sem.run_bind, px, py, he, Result.andThen_ok]
  cases a
  ·simp
  ·simpa using hr
theorem eqAV_ok {imp : Nat → Prop} {t : Nat} {x y : AV} {ux uy : Value} {b : Bool} (h : eqAV P t x y = some b) (hx : Val w imp m ux x) (hy : Val w imp m uy y) (ox oy : Operand) :
  (do eqGuard .eql t ox oy ux uy; binOp .eql t ux uy : Sem Value).run P w = .ok (.bool b) w ∧ (do eqGuard .neq t ox oy ux uy; binOp .neq t ux uy : Sem Value).run P w = .ok (.bool (!b)) w := by
 unfold eqAV at h
 split at h
 case h_2 => cases h
 rename_i T hT
 obtain ⟨dd, h1, h2⟩ := tyd_inv hT
 split at h
 ·rename_i fs xs ys hd
  split at h
  case isFalse => cases h
  rename_i hp
  rw [hd] at h2
  cases dd <;> simp [tyd] at h2
  rename_i fields
  subst h2
  cases hx with
  | @agg vx _ hnx hx =>
  cases hy with
  | @agg vy _ hny hy =>
  simp only [plainEq, h1, Bool.and_eq_true, Bool.not_eq_true', Array.all_eq_true_iff_forall_mem] at hp
  obtain ⟨⟨p1, p2⟩, p3⟩ := hp
  have hf : P.fieldsOf t = fields := by simp [Program.fieldsOf, h1]
  have hr := fields_ok (P := P) 9998 hnx hny hx hy fields.toList b (fun f hf => p3 f (by simpa using hf)) h
  have he := run_equalIn_struct (P := P) w 9999 t vx vy (by rw [hf]; exact h1) p2
  rw [hf, hr] at he
  constructor
  ·simp only [Sem.run_bind, run_eqGuard_agg w .eql t ox oy _ _ p1, Result.andThen_ok, run_eql_struct, he]
  ·simp only [Sem.run_bind, run_eqGuard_agg w .neq t ox oy _ _ p1, Result.andThen_ok, run_neq_struct, he]
 ·rename_i a b' hd
  have := tyd_bool (h2.trans hd)
  subst this
  cases h
  cases hx with
  | d hx =>
  cases hx
  cases hy with
  | d hy =>
  cases hy
  have he := run_equalIn_bool' (P := P) w 9999 t a b' h1
  constructor
  ·simp only [Sem.run_bind, guard_bool, Result.andThen_ok, binOp, Op.equal, Op.maxDepth, he, Sem.run_pure]
  ·simp only [Sem.run_bind, guard_bool, Result.andThen_ok, binOp, Op.equal, Op.maxDepth, he, Sem.run_pure]
 ·rename_i e a n c n' c' hd
  have h3 := tyd_slice (h2.trans hd)
  subst h3
  cases h
  cases hx with
  | d hx =>
  cases hx
  cases hy with
  | d hy =>
  cases hy
  exact nil_eq (P := P) h1 ox oy
 ·rename_i e sz r rs n' c' hd
  have h3 := tyd_slice (h2.trans hd)
  subst h3
  cases h
  cases hx with
  | d hx =>
  cases hx with
  | @sl a len cap _ _ vs hs hl hc hi hz hw hr =>
  cases hy with
  | d hy =>
  cases hy
  exact nil_eq (P := P) (a := some a) h1 ox oy
 ·cases h
theorem effBin_ok (I : Inv C m w hp) {op : BinOp} {t : Nat} {x y : AV} {ux uy : Value} {e : Eff} (he : effBin P op t x y = some e) (hs : e.sc) (hx : Val w (im C m w hp) m ux x) (hy : Val w (im C m w hp) m uy y) (ox oy : Operand) :
  Ok C m w hp d e ((do eqGuard op t ox oy ux uy; binOp op t ux uy : Sem Value).run P w) := by
 unfold effBin at he
 split at he
 ·rename_i k a k' b
  cases hx with
  | d hx =>
  cases hx
  cases hy with
  | d hy =>
  cases hy
  simp only [Sem.run_bind, guard_int, Result.andThen_ok]
  cases op
  case shl =>
   cases he
   have hs : ¬ b < 0 := by simp only at hs; omega
   simp only [binOp, Op.shift, if_neg hs, Sem.run_pure]
   exact Ok.same I (.d (.v rfl))
  case shr =>
   cases he
   have hs : ¬ b < 0 := by simp only at hs; omega
   simp only [binOp, Op.shift, if_neg hs, Sem.run_pure]
   exact Ok.same I (.d (.v rfl))
  all_goals
   simp only at he
   split at he
   case isFalse => cases he
   rename_i hk
   subst hk
   cases he
  case quo.isTrue.refl => simp only at hs; simp only [binOp, ne_eq, not_true_eq_false, if_false, Op.intDiv, if_neg hs, Sem.run_pure]; exact Ok.same I (.d (.v rfl))
  case rem.isTrue.refl => simp only at hs; simp only [binOp, ne_eq, not_true_eq_false, if_false, Op.intDiv, if_neg hs, Sem.run_pure]; exact Ok.same I (.d (.v rfl))
  all_goals simp only [binOp, ne_eq, not_true_eq_false, if_false, Op.intArith, intBits_and, intBits_or, intBits_xor, intBits_andNot, Op.intCmp, Sem.run_pure]; exact Ok.same I (.d (.v rfl))
 ·rename_i a b
  cases hx with
  | d hx =>
  cases hx
  cases hy with
  | d hy =>
  cases hy
  simp only [Sem.run_bind, guard_str, Result.andThen_ok]
  cases op <;> simp only at he <;> first | cases he | skip
  case add.refl =>
   have hs' : ¬ (((a.size + b.size : Nat) : Int) > IntKind.i64.max) := by
    have : IntKind.i64.max = 9223372036854775807 := by rfl
    rw [this]; simp only at hs; omega
   simp only [binOp, Op.stringOp, if_neg hs', Sem.run_pure]
   exact Ok.same I (.d (.v rfl))
  all_goals simp only [binOp, Op.stringOp, Sem.run_pure]; exact Ok.same I (.d (.v rfl))
 ·split at he
  ·rename_i b hb
   cases he
   rw [(eqAV_ok hb hx hy ox oy).1]
   exact Ok.same I (.d (.v rfl))
  ·rename_i b hb
   cases he
   rw [(eqAV_ok hb hx hy ox oy).2]
   exact Ok.same I (.d (.v rfl))
  ·cases he
theorem effBinC_ok (I : Inv C m w hp) {op : BinOp} {t : Nat} {x y : AV} {ux uy : Value} {e : Eff} {ox oy : Operand} (he : effBinC P op t (isConst oy) x y = some e) (hs : e.sc) (hx : Val w (im C m w hp) m ux x) (hy : Val w (im C m w hp) m uy y) :
  Ok C m w hp d e ((do eqGuard op t ox oy ux uy; binOp op t ux uy : Sem Value).run P w) := by
 unfold effBinC at he
 split at he
 ·exact effBin_ok I he hs hx hy ox oy
 ·exact effBin_ok I he hs hx hy ox oy
 ·exact effBin_ok I he hs hx hy ox oy
 ·exact effBin_ok I he hs hx hy ox oy
 ·exact effBin_ok I he hs hx hy ox oy
 ·split at he
  case h_2 => cases he
  split at he
  case isFalse => cases he
  rename_i hc
  split at he
  case isFalse => cases he
  rename_i hi
  unfold isIface at hi
  split at hi
  case h_2 => cases hi
  rename_i ms hu
  cases hx with
  | d hx =>
  cases hx
  cases hy with
  | d hy =>
  cases hy
  cases oy with
  | const v =>
   have he0 : ∀ n, (Op.equalIn (n + 1) t .nilIface .nilIface).run P w = .ok true w := fun n => by
    simp only [Op.equalIn, Sem.run_bind, run_underlying hu, Result.andThen_ok, Sem.run_pure]
   have he1 : (Op.equal t .nilIface .nilIface).run P w = .ok true w := he0 9999
   split at he
   ·cases he
    rw [eqGuard_nil_constR]
    simp only [Sem.run_bind, Sem.run_pure, Result.andThen_ok, binOp, he1]
    exact Ok.same I (.d (.v rfl))
   ·cases he
    rw [eqGuard_nil_constR]
    simp only [Sem.run_bind, Sem.run_pure, Result.andThen_ok, binOp, he1]
    exact Ok.same I (.d (.v rfl))
   ·cases he
  | _ => cases hc
 ·exact effBin_ok I he hs hx hy ox oy
end
end Go.Proofs.Ytgbialeahdoelaa.Eng

end

section
namespace Go.Proofs.Ytgbialeahdoelaa.Eng
open Go
structure St where
 n : Nat
 used : List Nat
 sl : List (Nat × AV)
 hp : Hp
def avConst : Value → AV
 | .agg cs => if cs.toList.all Value.oneCell' = true then .agg (cs.toList.map fun u => .d (.v u)) else .bad
 | .tuple _ => .bad
 | v => .d (.v v)
def St.look (s : St) : Operand → AV
 | .tmp t => (s.sl.lookup t).getD .bad
 | .const v => avConst v
 | .func f => .fn f []
 | .global g => match tabL.lookup g with
  | some l => .ep (l.map .v) 0
  | none => .bad
def effCall (P : Program) (h : Nat → Option AObj) (d : Nat) (b : Builtin) (ts : List Nat) (l : List AV) : Option Eff :=
 match b, ts, l with
 | .len, [t], [x] => effLen P t x
 | .append, [t, tx], [s, x] => effAppend P h d t tx s x
 | .max, _, l => effFold mx l
 | .min, _, l => effFold mn l
 | _, _, _ => none
def eff (P : Program) (h : Nat → Option AObj) (look : Operand → AV) (d : Nat) : Op → Option Eff
 | .move x | .assign x => some { sc := True, val := look x }
 | .pick c a b => effPick (look c) (look a) (look b)
 | .alloc e => match ti P e with
  | some T => some { sc := True, val := .ptr d 0, up := [(d, some (.cells e (T.z.map fun u => .d (.v u))))], new := true }
  | none => none
 | .box t x => if allCell (look x).cells = true then some { sc := True, val := .ptr d 0, up := [(d, some (.cells t (look x).cells))], new := true } else none
 | .build t parts => effBuild P t (parts.toList.map fun p => (p.1, look p.2))
 | .buildSlice t n parts => effBuildSlice P h d t n (parts.toList.map fun p => (p.1, look p.2))
 | .load t a => effLoad P h t (look a)
 | .store t a x => effStore P h t (look a) (look x)
 | .nilCheck x => effNil (look x)
 | .binOp op t x y _ => effBinC P op t (isConst y) (look x) (look y)
 | .unOp op _ x => effUn op (look x)
 | .convert s t x => effConv P h s t (look x)
 | .makeFunc (.func f) first caps => if first = #[] then some { sc := True, val := .fn f (caps.toList.map look) } else none
 | .makeSlice t l c => effMakeSlice P d t (look l) (look c)
 | .slice t x lo hi none => effSlice P h d t (look x) (lo.map look) (hi.map look)
 | .fieldAddr s x f => effFieldAddr P s f (look x)
 | .field s x f => effField P s f (look x)
 | .indexAddr t x i => effIndexAddr P h t (look x) (look i)
 | .index t x i => effIndex P t (look x) (look i)
 | .extract t i => effExtract i (look t)
 | .call { callee := .builtin b, args := args, argTypes := ts } => effCall P h d b ts.toList (args.toList.map look)
 | _ => none
section
variable {P : Program} {C : Ctx} {m : Nat → Value} {w : World} {hp : Hp} {d : Nat} {sc : Prop}
def Post (C : Ctx) (m : Nat → Value) (w : World) (hp : Hp) (d : Nat) (e : Eff) (v : Value) (w' : World) : Prop :=
 ∃ m', (∀ o, (e.new = true → o ≠ d) → m' o = m o) ∧ Inv C m' w' (e.up ++ hp) ∧ Val w' (im C m' w' (e.up ++ hp)) m' v e.val ∧ ∀ b, im C m w hp b → im C m' w' (e.up ++ hp) b ∧ w'.heap[b]? = w.heap[b]?
theorem Ok.post {e : Eff} {r : Result Value} (h : Ok C m w hp d e r) : ∃ v w', r = .ok v w' ∧ Post C m w hp d e v w' := by
 obtain ⟨v, w', m', h1, h2, h3, h4, h5⟩ := h
 exact ⟨v, w', h1, m', h2, h3, h4, h5⟩
def Tells (P : Program) (ρ : Operand → Value) (o : Oper) (w : World) (v : Value) (w' : World) : Prop :=
 (execOp ρ o).run P w = .ok (.value v) w' ∨ ((execOp ρ o).run P w = .ok .skip w' ∧ v = undef)
theorem Ok.tells {e : Eff} {s : Sem Value} (h : Ok C m w hp d e (s.run P w)) {ρ : Operand → Value} {o : Oper} (he : execOp ρ o = (do pure (.value (← s)))) : ∃ v w', Tells P ρ o w v w' ∧ Post C m w hp d e v w' := by
 obtain ⟨v, w', h1, h2⟩ := h.post
 exact ⟨v, w', .inl (by rw [he]; simp [h1]), h2⟩
theorem Val.of_operand {im : Nat → Prop} {s : St} {a : Act} (ht : TabsAt w im) (h : ∀ t c, s.sl.lookup t = some c → Val w im m (a.tmps.getD t undef) c) (x : Operand) : Val w im m (a.eval x) (s.look x) := by
  cases x with
  | tmp t =>
    show Val w im m (a.tmps.getD t undef) ((s.sl.lookup t).getD .bad)
    cases hl : s.sl.lookup t with
    | none => exact .bad _
    | some c => exact h t c hl
  | const v =>
    show Val w im m v (avConst v)
    unfold avConst
    split
    · rename_i cs
      split
      · rename_i hc
        obtain ⟨q1, q2⟩ := zero_vals (w := w) (imp := im) (m := m) hc
        exact .agg (by simp) fun i u c h1 h2 => q1 i u c (by simpa using h1) h2
      · exact .bad _
    · exact .bad _
    · refine .d (.v ?_)
      cases v <;> first | rfl | (simp_all; done)
  | func f => exact .fn (by simp) (by simp)
  | global g =>
    show Val w im m (.pointer (some ⟨g, 0, none⟩)) (match tabL.lookup g with | some l => .ep (l.map .v) 0 | none => .bad)
    cases hl : tabL.lookup g with
    | none => exact .bad _
    | some l =>
      obtain ⟨h1, h2⟩ := ht g l hl
      have e : (⟨g, 0, none⟩ : Addr) = (⟨g, 0, none⟩ : Addr).add 0 := by rw [addr_eta _ rfl]
      rw [e]
      refine .ep (a := ⟨g, 0, none⟩) (fun j => l.getD j .nilFunc) rfl (fun _ => h1) (fun j x hx => ?_) fun j x hx => ?_
      all_goals
        rw [List.getElem?_map] at hx
        cases hv : l[j]? with
        | none => rw [hv] at hx; cases hx
        | some v =>
          rw [hv] at hx
          cases hx
          have hg : l.getD j .nilFunc = v := by rw [List.getD_eq_getElem?_getD, hv]; rfl
          first
          | (rw [hg, addr_eta _ rfl]
             simp only [Nat.zero_add]
             exact (h2 j v hv).2)
          | (simp only [hg]; exact .v (h2 j v hv).1)
theorem eff_ok (I : Inv C m w hp) {ρ : Operand → Value} {look : Operand → AV} (hρ : ∀ x, Val w (im C m w hp) m (ρ x) (look x)) {o : Oper} {e : Eff} (he : eff P hp.get look d o.op = some e) (hs : e.sc) (hf : e.new = true → Fr hp d)
  (hids : ∀ x, ∀ i ∈ (look x).ids, e.new = true → i ≠ d) : ∃ v w', Tells P ρ o w v w' ∧ Post C m w hp d e v w' := by
 have pairs : ∀ parts : Array (Nat × Operand), (parts.map fun (i, x) => (i, ρ x)) = ((parts.toList.map fun p => (p.1, ρ p.2))).toArray := fun parts => by
  apply Array.ext'; simp
 have hpairs : ∀ parts : Array (Nat × Operand), ∀ (i : Nat) (p : Nat × Value) (q : Nat × AV), (parts.toList.map fun p => (p.1, ρ p.2))[i]? = some p → (parts.toList.map fun p => (p.1, look p.2))[i]? = some q → p.1 = q.1 ∧ Val w (im C m w hp) m p.2 q.2 := fun parts i p q h1 h2 => by
  rw [List.getElem?_map] at h1 h2
  cases hp : parts.toList[i]? with
  | none => rw [hp] at h1; cases h1
  | some x => rw [hp] at h1 h2; cases h1; cases h2; exact ⟨rfl, hρ _⟩
 have hargs : ∀ args : Array Operand, ∀ (i : Nat) (u : Value) (c : AV), (args.map ρ)[i]? = some u → (args.toList.map look)[i]? = some c → Val w (im C m w hp) m u c := fun args i u c h1 h2 => by
  rw [← Array.getElem?_toList, Array.toList_map, List.getElem?_map] at h1
  rw [List.getElem?_map] at h2
  cases hp : args.toList[i]? with
  | none => rw [hp] at h1; cases h1
  | some x => rw [hp] at h1 h2; cases h1; cases h2; exact hρ _
 have same : ∀ (v : Value) (c : AV), Val w (im C m w hp) m v c → e = { sc := True, val := c } → Post C m w hp d e v w := fun v c hv he => by subst he; exact ⟨m, fun _ _ => rfl, I, hv, fun _ h => ⟨h, rfl⟩⟩
 unfold eff at he
 split at he
 ·rename_i x hop; cases he; exact ⟨ρ x, w, .inl (by simp [execOp, hop]), same _ _ (hρ x) rfl⟩
 ·rename_i x hop; cases he; exact ⟨ρ x, w, .inl (by simp [execOp, hop]), same _ _ (hρ x) rfl⟩
 ·rename_i c a b hop
  obtain ⟨v, w', h1, h2⟩ := (effPick_ok (P := P) (d := d) I he (hρ c) (hρ a) (hρ b)).post
  refine ⟨v, w', .inl ?_, h2⟩
  simp only [execOp, hop]
  simp only [Sem.run_bind, Sem.run_pure] at h1 ⊢
  cases hb : (asBool (ρ c)).run P w with
  | ok b w1 => rw [hb] at h1; simp only [Result.andThen_ok] at h1 ⊢; cases h1; rfl
  | halt h w1 => rw [hb] at h1; cases h1
 ·rename_i e0 hop
  split at he
  case h_2 => cases he
  rename_i T hT
  cases he
  obtain ⟨_, _, _, _, _, _, _, _, _, _, _, hone⟩ := ti_info hT
  obtain ⟨z, hz1, hz2⟩ := run_zero (P := P) (w := w) hT
  obtain ⟨q1, q2⟩ := zero_vals (w := w) (imp := im C m w hp) (m := m) hone
  have hzc : z.cells = T.z.toArray := by rw [← hz2]
  have no : ∀ l : List Value, AV.ids.idsL (l.map fun u => AV.d (.v u)) = [] := fun l => by
   induction l with
   | nil => rfl
   | cons a l ih => simp [AV.ids.idsL, AV.ids, ih]
  have := Ok.alloc (sc := True) (e := e0) I (hf rfl) (us := T.z.toArray) (cs := T.z.map fun u => .d (.v u)) (by simp) q1 q2 (by rw [no]; simp)
  refine Ok.tells (s := Instr.alloc e0 true (.tuple #[])) ?_ (by simp [execOp, hop])
  have hr : (Instr.alloc e0 true (.tuple #[])).run P w = .ok (.pointer (some ⟨w.heap.size, 0, none⟩)) (w.alloc (.cells T.z.toArray e0)) := by
   simp only [Instr.alloc, Sem.run_bind, hz1, Result.andThen_ok, newVar, newRow, hzc, run_newObj, Sem.run_pure]; rfl
  rw [hr]
  exact this
 ·rename_i e0 x hop
  split at he
  case isFalse => cases he
  rename_i hc
  cases he
  obtain ⟨q1, q2, _⟩ := (hρ x).cells hc
  have hnot : d ∉ AV.ids.idsL (look x).cells := fun h => by
   refine hids x d ?_ rfl rfl
   revert h
   cases look x <;> simp [AV.cells, AV.ids.idsL, AV.ids]
  have := Ok.alloc (sc := True) (e := e0) I (hf rfl) q1 q2 hc hnot
  refine Ok.tells (s := Instr.box e0 (ρ x)) ?_ (by simp [execOp, hop])
  have hr : (Instr.box e0 (ρ x)).run P w = .ok (.pointer (some ⟨w.heap.size, 0, none⟩)) (w.alloc (.cells (ρ x).cells e0)) := by
   simp only [Instr.box, Sem.run_bind, Result.andThen_ok, newVar, newRow, run_newObj, Sem.run_pure]; rfl
  rw [hr]
  exact this
 ·rename_i t parts hop
  refine Ok.tells (effBuild_ok I he (by simp) (hpairs parts)) (by simp only [execOp, hop, pairs])
 ·rename_i t n parts hop
  refine Ok.tells (effBuildSlice_ok I he (by simp) hf (hpairs parts)) (by simp only [execOp, hop, pairs])
 ·rename_i t a hop; exact Ok.tells (effLoad_ok I he hs (hρ a)) (by simp only [execOp, hop])
 ·rename_i t a x hop
  obtain ⟨w', h1, h2, h3⟩ := effStore_ok I he hs (hρ a) (hρ x)
  have hnew : e.val = .bad ∧ e.new = false := by
   unfold effStore at he
   split at he
   ·split at he
    ·split at he
     ·cases he; exact ⟨rfl, rfl⟩
     ·cases he
    ·cases he
   ·split at he
    ·split at he
     ·cases he; exact ⟨rfl, rfl⟩
     ·cases he
    ·cases he
   ·cases he
  exact ⟨undef, w', .inr ⟨by simp only [execOp, hop, Sem.run_bind, h1, Result.andThen_ok, Sem.run_pure], rfl⟩, m, fun _ _ => rfl, h2, by rw [hnew.1]; exact .bad _, h3⟩
 ·rename_i x hop
  obtain ⟨u, h1, h2⟩ := effNil_ok (P := P) (d := d) (ρ := ρ) I hop he (hρ x)
  obtain ⟨v, w', h3, h4⟩ := h2.post
  cases h3
  exact ⟨u, w, .inl h1, h4⟩
 ·rename_i op t x y yt hop; exact Ok.tells (effBinC_ok (ox := x) (oy := y) I he hs (hρ x) (hρ y)) (by simp only [execOp, hop])
 ·rename_i op t x hop; exact Ok.tells (effUn_ok I he (hρ x)) (by simp only [execOp, hop])
 ·rename_i s t x hop; exact Ok.tells (effConv_ok I he hs (hρ x)) (by simp only [execOp, hop])
 ·rename_i f first caps hop
  split at he
  case isFalse => cases he
  rename_i hfi
  cases he
  subst hfi
  exact ⟨.func (.func f) #[] (caps.map ρ), w, .inl (by simp [execOp, hop, Instr.makeFunc]), same _ _ (.fn (by simp) (hargs caps)) rfl⟩
 ·rename_i t l c hop; exact Ok.tells (effMakeSlice_ok I he hs hf (hρ l) (hρ c)) (by simp only [execOp, hop])
 ·rename_i t x lo hi hop
  have opt : ∀ o : Option Operand, OptVal w (im C m w hp) m (o.map ρ) (o.map look) := fun o => by cases o <;> simp [OptVal, hρ]
  exact Ok.tells (effSlice_ok I he hs hf (hρ x) (opt lo) (opt hi)) (by simp only [execOp, hop, Option.map_none])
 ·rename_i s x f hop; exact Ok.tells (effFieldAddr_ok I he (hρ x)) (by simp only [execOp, hop])
 ·rename_i s x f hop; exact Ok.tells (effField_ok I he (hρ x)) (by simp only [execOp, hop])
 ·rename_i t x i hop; exact Ok.tells (effIndexAddr_ok I he hs (hρ x) (hρ i)) (by simp only [execOp, hop])
 ·rename_i t x i hop; exact Ok.tells (effIndex_ok I he hs (hρ x) (hρ i)) (by simp only [execOp, hop])
 ·rename_i t i hop; exact Ok.tells (effExtract_ok I he (hρ t)) (by simp only [execOp, hop])
 ·rename_i b args ts hop
  unfold effCall at he
  have e0 : ∀ s : Sem Value, builtin b ts o.type (args.map fun | .const _ => true | _ => false) (args.map ρ) = (do pure (.value (← s))) → execOp ρ o = (do pure (.value (← s))) := fun s h => by
   rw [← h]
   simp only [execOp, hop, resolve, invoke]
   rfl
  split at he
  ·rename_i t x hts hl
   obtain ⟨args⟩ := args
   obtain ⟨ts⟩ := ts
   simp only at hts hl
   subst hts
   cases args with
   | nil => simp at hl
   | cons y args =>
    cases args with
    | cons _ _ => simp at hl
    | nil =>
     simp only [List.map_cons, List.map_nil, List.cons.injEq, and_true] at hl
     subst hl
     refine Ok.tells (s := Builtin.len_ #[t] o.type #[ρ y]) (effLen_ok I he (hρ y)) (e0 _ ?_)
     simp [builtin]
  ·rename_i t tx s x hts hl
   obtain ⟨args⟩ := args
   obtain ⟨ts⟩ := ts
   simp only at hts hl
   subst hts
   cases args with
   | nil => simp at hl
   | cons y args =>
    cases args with
    | nil => simp at hl
    | cons y2 args =>
     cases args with
     | cons _ _ => simp at hl
     | nil =>
      simp only [List.map_cons, List.map_nil, List.cons.injEq, and_true] at hl
      obtain ⟨rfl, rfl⟩ := hl
      refine Ok.tells (s := Builtin.append_ #[t, tx] o.type #[ρ y, ρ y2]) (effAppend_ok I he hs hf (hρ y) (hρ y2)) (e0 _ ?_)
      simp [builtin]
  ·obtain ⟨x, rest, h1, h2⟩ := effFold_ok (P := P) (d := d) (g := Builtin.max2) I (fun k a b w => by simp [Builtin.max2, mx]) he (by simp) (hargs args)
   refine Ok.tells (s := Builtin.max_ ts o.type (args.map ρ)) ?_ (e0 _ (by simp [builtin]))
   simp only [Builtin.max_, h1]
   exact h2
  ·obtain ⟨x, rest, h1, h2⟩ := effFold_ok (P := P) (d := d) (g := Builtin.min2) I (fun k a b w => by simp [Builtin.min2, mn]) he (by simp) (hargs args)
   refine Ok.tells (s := Builtin.min_ ts o.type (args.map ρ)) ?_ (e0 _ (by simp [builtin]))
   simp only [Builtin.min_, h1]
   exact h2
  ·cases he
 ·cases he
end
end Go.Proofs.Ytgbialeahdoelaa.Eng

end

section
namespace Go.Proofs.Ytgbialeahdoelaa.Eng
open Go
set_option linter.unusedVariables false
set_option linter.unusedSimpArgs false
abbrev Gam := Nat → (Nat → Option AObj) → Nat → List AV → Option Eff
def Gok (P : Program) (Γ : Gam) : Prop :=
 ∀ g h d args e, Γ g h d args = some e → e.sc → ∀ (C : Ctx) (m : Nat → Value) (w : World) (hp : Hp) (vals : Array Value), h = hp.get → Inv C m w hp → vals.size = args.length →
  (∀ (i : Nat) (u : Value) (c : AV), vals[i]? = some u → args[i]? = some c → Val w (im C m w hp) m u c) → (e.new = true → Fr hp d) →
  (∃ fn, P.funcs[g]? = some fn ∧ (fn.name == "runtime.NumGoroutine") = false ∧ fn.body.isNone = false) ∧ Calls P g vals w fun en w' => ∃ v, en = .returned v ∧ Post C m w hp d e v w'
def St.effOf (P : Program) (Γ : Gam) (s : St) (d : Nat) : Op → Option Eff
 | .call { callee := .value f, args := args, .. } => match s.look f with
  | .fn g caps => Γ g s.hp.get d (args.toList.map s.look ++ caps)
  | _ => none
 | op => eff P s.hp.get s.look d op
def subL (l used : List Nat) : Bool := l.all fun i => used.contains i
def upIds : Hp → List Nat
 | [] => []
 | (o, some obj) :: l => o :: obj.ids ++ upIds l
 | (_, none) :: l => upIds l
def St.upd (s : St) (o : Oper) (e : Eff) : St :=
 { n := s.n, used := if e.new then o.dst.getD 0 :: s.used else s.used, sl := match o.dst with | some d => (d, e.val) :: s.sl | none => s.sl, hp := e.up ++ s.hp }
def St.okB (s : St) (o : Oper) (e : Eff) : Bool :=
 (match o.dst with | some d => decide (d < s.n) | none => !e.new) && (!e.new || !(s.used.contains (o.dst.getD 0))) && subL (e.val.ids ++ upIds e.up) (s.upd o e).used
def boolOf : AV → Option (List Bool × Bool)
 | .d (.v (.bool b)) => some ([], b)
 | .gd gs (.d (.v (.bool b))) => some (gs, b)
 | _ => none
def St.guard (s : St) (ops : Array Oper) (j : Nat) : Option (List Bool × Bool) :=
 match (ops[j]?).bind (·.dst) with
 | some t => boolOf (s.look (.tmp t))
 | none => none
def gOf (p : List Bool × Bool) (want : Bool) : List Bool := p.1 ++ [if want then p.2 else !p.2]
def St.at (s : St) (G : List Bool) : St := { s with sl := s.sl.map fun p => (p.1, unw G p.2) }
def runOp (P : Program) (Γ : Gam) (ops : Array Oper) (o : Oper) (s : St) (K : St → Prop) : Prop :=
 match o.guard with
 | none => match s.effOf P Γ (o.dst.getD 0) o.op with
  | some e => s.okB o e = true ∧ e.sc ∧ K (s.upd o e)
  | none => False
 | some (j, want) => match s.guard ops j, o.dst with
  | some p, some d => match (s.at (gOf p want)).effOf P Γ d o.op with
   | some e => match e.up.isEmpty && !e.new with
    | true => d < s.n ∧ subL e.val.ids s.used = true ∧ (allB (gOf p want) = true → e.sc) ∧ K { s with sl := (d, .gd (gOf p want) e.val) :: s.sl }
    | false => d < s.n ∧ if allB (gOf p want) = true then s.okB o e = true ∧ e.sc ∧ K (s.upd o e) else K { s with sl := (d, .gd (gOf p want) .bad) :: s.sl }
   | none => d < s.n ∧ allB (gOf p want) = false ∧ K { s with sl := (d, .gd (gOf p want) .bad) :: s.sl }
  | _, _ => False
def runOps (P : Program) (Γ : Gam) (ops : Array Oper) : List Oper → St → (St → Prop) → Prop
 | [], s, K => K s
 | o :: os, s, K => runOp P Γ ops o s fun s' => runOps P Γ ops os s' K

structure Sat (C : Ctx) (m : Nat → Value) (s : St) (a : Act) (w : World) : Prop where
 inv : Inv C m w s.hp
 size : a.tmps.size = s.n
 defers : a.defers = []
 slots : ∀ t c, s.sl.lookup t = some c → Val w (im C m w s.hp) m (a.tmps.getD t undef) c ∧ ∀ i ∈ c.ids, i ∈ s.used
 heap : ∀ o obj, s.hp.get o = some obj → o ∈ s.used ∧ ∀ i ∈ obj.ids, i ∈ s.used
 small : s.n ≤ 10000
 pin : ∀ i, 10000 ≤ i → m i = C.pin i
theorem subL_mem {l used : List Nat} (h : subL l used = true) : ∀ i ∈ l, i ∈ used := fun i hi => by simpa using List.all_eq_true.1 h i hi
theorem upIds_get : ∀ {up : Hp} {hp : Hp} {o : Nat} {obj : AObj}, Hp.get (up ++ hp) o = some obj → (o ∈ upIds up ∧ ∀ i ∈ obj.ids, i ∈ upIds up) ∨ hp.get o = some obj
 | [], _, _, _, h => .inr h
 | (a, x) :: up, hp, o, obj, h => by
  rw [List.cons_append, Hp.get_cons] at h
  by_cases e : o = a
  ·rw [if_pos e] at h
   subst e
   subst h
   exact .inl ⟨by simp [upIds], fun i hi => by simp [upIds, hi]⟩
  ·rw [if_neg e] at h
   rcases upIds_get h with ⟨h1, h2⟩ | h1
   ·refine .inl ⟨?_, fun i hi => ?_⟩ <;> cases x <;> simp [upIds, h1, h2] <;> simp_all
   ·exact .inr h1
theorem put_getD (a : Act) (d : Nat) (v : Value) (t : Nat) (h : d < a.tmps.size) : (a.put (some d) v).tmps.getD t undef = if t = d then v else a.tmps.getD t undef := by
 simp only [Act.put, Array.getD_eq_getD_getElem?]
 by_cases e : t = d
 ·subst e
  simp [h]
 ·rw [Array.getElem?_setIfInBounds_ne (fun q => e q.symm), if_neg e]
theorem lookup_cons (t d : Nat) (c : AV) (l : List (Nat × AV)) : List.lookup t ((d, c) :: l) = if t = d then some c else List.lookup t l := by
 by_cases e : t = d
 ·subst e; simp
 ·rw [if_neg e, List.lookup_cons, beq_eq_false_iff_ne.2 e]
section
variable {P : Program} {Γ : Gam} {C : Ctx} {m : Nat → Value} {w : World} {a : Act} {s : St}
theorem Sat.next (S : Sat C m s a w) {o : Oper} {e : Eff} {v : Value} {w' : World} (hok : s.okB o e = true) (h : Post C m w s.hp (o.dst.getD 0) e v w') : ∃ m', Sat C m' (s.upd o e) (a.put o.dst v) w' := by
 obtain ⟨m', h1, h2, h3, h4⟩ := h
 simp only [St.okB, Bool.and_eq_true] at hok
 obtain ⟨⟨k1, k2⟩, k3⟩ := hok
 have hused : ∀ i, i ∈ s.used → i ∈ (s.upd o e).used := fun i hi => by
  simp only [St.upd]
  split
  ·exact List.mem_cons_of_mem _ hi
  ·exact hi
 have hm : ∀ i, i ∈ s.used → m' i = m i := fun i hi => h1 i fun hn e0 => by
  simp only [hn, Bool.not_true, Bool.false_or, Bool.not_eq_true'] at k2
  rw [e0] at hi
  simp [hi] at k2
 have hsub := subL_mem k3
 refine ⟨m', h2, ?_, ?_, fun t c hl => ?_, fun o' obj ho => ?_, S.small, fun i hi => (h1 i fun hn e0 => ?_).trans (S.pin i hi)⟩
 rotate_right
 ·have hs := S.small
  cases hd : o.dst with
  | none => simp [hd, hn] at k1
  | some d =>
   have k1' : d < s.n := by simpa [hd] using k1
   simp only [hd, Option.getD_some] at e0
   exact absurd (Nat.lt_of_lt_of_le k1' hs) (by rw [← e0]; exact Nat.not_lt.mpr hi)
 ·cases o.dst <;> simp [Act.put, St.upd, S.size]
 ·cases o.dst <;> exact S.defers
 ·have old : s.sl.lookup t = some c → Val w' (im C m' w' (e.up ++ s.hp)) m' (a.tmps.getD t undef) c ∧ ∀ i ∈ c.ids, i ∈ (s.upd o e).used := fun hl => by
   obtain ⟨q1, q2⟩ := S.slots t c hl
   exact ⟨q1.mono h4 fun i hi => hm i (q2 i hi), fun i hi => hused i (q2 i hi)⟩
  cases hd : o.dst with
  | none =>
   simp only [St.upd, hd] at hl
   exact old hl
  | some d =>
   simp only [hd, decide_eq_true_eq] at k1
   simp only [St.upd, hd] at hl
   rw [lookup_cons] at hl
   rw [put_getD a d v t (by rw [S.size]; exact k1)]
   split at hl
   ·rename_i e0
    cases hl
    rw [if_pos e0]
    exact ⟨h3, fun i hi => hsub i (List.mem_append.2 (.inl hi))⟩
   ·rename_i e0
    rw [if_neg e0]
    exact old hl
 ·rcases upIds_get (up := e.up) (hp := s.hp) ho with ⟨q1, q2⟩ | q1
  ·exact ⟨hsub _ (List.mem_append.2 (.inr q1)), fun i hi => hsub _ (List.mem_append.2 (.inr (q2 i hi)))⟩
  ·obtain ⟨q2, q3⟩ := S.heap o' obj q1
   exact ⟨hused _ q2, fun i hi => hused _ (q3 i hi)⟩
theorem Sat.fr (S : Sat C m s a w) {d : Nat} (h : d ∉ s.used) : Fr s.hp d := fun o obj ho => ⟨fun e => h (e ▸ (S.heap o obj ho).1), fun hi => h ((S.heap o obj ho).2 d hi)⟩
theorem Sat.operands (S : Sat C m s a w) (x : Operand) : Val w (im C m w s.hp) m (a.eval x) (s.look x) := Val.of_operand S.inv.tab (fun t c h => (S.slots t c h).1) x
theorem avConst_ids (v : Value) : (avConst v).ids = [] := by
 have no : ∀ l : List Value, AV.ids.idsL (l.map fun u => AV.d (.v u)) = [] := fun l => by
  induction l with
  | nil => rfl
  | cons a l ih => simp [AV.ids.idsL, AV.ids, ih]
 unfold avConst
 split
 ·split
  ·simp [AV.ids, no]
  ·rfl
 ·rfl
 ·rfl
theorem Sat.operand_ids (S : Sat C m s a w) (x : Operand) : ∀ i ∈ (s.look x).ids, i ∈ s.used := by
 cases x with
 | tmp t =>
  show ∀ i ∈ ((s.sl.lookup t).getD .bad).ids, i ∈ s.used
  cases hl : s.sl.lookup t with
  | none => intro i hi; cases hi
  | some c => exact (S.slots t c hl).2
 | const v => intro i hi; rw [show s.look (.const v) = avConst v from rfl, avConst_ids] at hi; cases hi
 | func f => intro i hi; cases hi
 | global g =>
  intro i hi
  have : (s.look (.global g)).ids = [] := by
   show (match tabL.lookup g with | some l => AV.ep (l.map .v) 0 | none => .bad).ids = []
   cases tabL.lookup g <;> rfl
  rw [this] at hi
  cases hi
theorem strip_ids : ∀ (G gs : List Bool) (c : AV), ∀ i ∈ (strip G gs c).ids, i ∈ c.ids
 | [], [], _, _, h => h
 | [], _ :: _, _, _, h => h
 | _ :: _, [], _, _, h => h
 | a :: G, g :: gs, c, i, h => by
  simp only [strip] at h
  split at h
  ·exact strip_ids G gs c i h
  ·cases h
theorem unw_ids (G : List Bool) (c : AV) : ∀ i ∈ (unw G c).ids, i ∈ c.ids := fun i hi => by
 cases c with
 | gd gs c => exact strip_ids G gs c i hi
 | _ => exact hi
theorem lookup_map (g : List Bool) (l : List (Nat × AV)) (t : Nat) : (l.map fun p => (p.1, unw g p.2)).lookup t = (l.lookup t).map (unw g) := by
 induction l with
 | nil => rfl
 | cons p l ih =>
  obtain ⟨a, x⟩ := p
  rw [List.map_cons, lookup_cons, lookup_cons, ih]
  split <;> rfl
theorem Sat.at (S : Sat C m s a w) {g : List Bool} (hg : allB g = true) : Sat C m (s.at g) a w := by
 refine ⟨S.inv, S.size, S.defers, fun t c hl => ?_, S.heap, S.small, S.pin⟩
 simp only [St.at, lookup_map] at hl
 cases hx : s.sl.lookup t with
 | none => rw [hx] at hl; cases hl
 | some x =>
  rw [hx] at hl
  cases hl
  obtain ⟨q1, q2⟩ := S.slots t x hx
  exact ⟨unw_val hg q1, fun i hi => q2 i (unw_ids g x i hi)⟩
theorem eff_step (hG : Gok P Γ) (S : Sat C m s a w) {o : Oper} {e : Eff} (he : s.effOf P Γ (o.dst.getD 0) o.op = some e) (hsc : e.sc) (hnew : e.new = true → o.dst.getD 0 ∉ s.used) {K : Act → World → Prop} {Q : Exit → Act → World → Prop}
  (hK : ∀ v w', Post C m w s.hp (o.dst.getD 0) e v w' → K (a.put o.dst v) w') : o.wp P a w K Q := by
 have tells : eff P s.hp.get s.look (o.dst.getD 0) o.op = some e → o.wp P a w K Q := fun he => by
  obtain ⟨v, w', h1, h2⟩ := eff_ok (P := P) (ρ := a.eval) S.inv S.operands he hsc (fun hn => S.fr (hnew hn)) (fun x i hi hn e0 => hnew hn (e0 ▸ S.operand_ids x i hi))
  unfold Oper.wp
  rcases h1 with h1 | ⟨h1, rfl⟩
  ·rw [h1]; exact hK v w' h2
  ·rw [h1]; exact hK undef w' h2
 unfold St.effOf at he
 split at he
 ·rename_i f args ts hop
  split at he
  ·rename_i g caps hlook
   have hf := S.operands f
   rw [hlook] at hf
   generalize hv : a.eval f = uf at hf
   cases hf with
   | @fn _ us _ hn hcap =>
   have hvals : ∀ (i : Nat) (u : Value) (c : AV), (args.map a.eval ++ us)[i]? = some u → (args.toList.map s.look ++ caps)[i]? = some c → Val w (im C m w s.hp) m u c := fun i u c h1 h2 => by
    rw [Array.getElem?_append] at h1
    rw [List.getElem?_append] at h2
    simp only [Array.size_map, List.length_map, Array.length_toList] at h1 h2
    split at h1
    ·rename_i hi
     rw [if_pos hi] at h2
     rw [Array.getElem?_map] at h1
     rw [List.getElem?_map, Array.getElem?_toList] at h2
     cases hx : args[i]? with
     | none => rw [hx] at h1; cases h1
     | some x => rw [hx] at h1 h2; cases h1; cases h2; exact S.operands x
    ·rename_i hi
     rw [if_neg hi] at h2
     exact hcap _ _ _ h1 h2
   obtain ⟨⟨fn, g1, g2, g3⟩, hcalls⟩ := hG g _ _ _ e he hsc C m w s.hp (args.map a.eval ++ us) rfl S.inv (by simp [hn]) hvals (fun hn => S.fr (hnew hn))
   have hrun : (execOp a.eval o).run P w = .ok (.enter g (args.map a.eval ++ us)) w := by
    simp only [execOp, hop, resolve, hv, Deferred.ofValue, invoke, Sem.run_bind, Sem.run_pure, Result.andThen_ok, callFunc, run_program, g1, g2, g3, Bool.false_eq_true, if_false, Array.empty_append]
   unfold Oper.wp
   rw [hrun]
   refine hcalls.mono fun en w' ⟨v, hen, hp⟩ => ?_
   subst hen
   exact hK v w' hp
  ·cases he
 ·exact tells he
theorem runOp_ok (hG : Gok P Γ) {ops : Array Oper} (S : Sat C m s a w) {o : Oper} {i : Nat} (hi : ops[i]? = some o) {K' : St → Prop} (h : runOp P Γ ops o s K') {K : Act → World → Prop} {Q : Exit → Act → World → Prop}
  (hK : ∀ a' w' s' m', Sat C m' s' a' w' → K' s' → K a' w') : wpOp P ops Q i K a w := by
 unfold wpOp
 rw [hi]
 simp only
 unfold runOp at h
 split at h
 ·rename_i hg
  have hw : Region.wanted o (yielded ops a.tmps) = true := by simp [Region.wanted, hg]
  simp only [hw, if_true]
  split at h
  ·rename_i e he
   obtain ⟨h1, h2, h3⟩ := h
   refine .inl (eff_step hG S he h2 (fun hn => ?_) fun v w' hp => ?_)
   ·simp only [St.okB, Bool.and_eq_true] at h1
    have := h1.1.2
    simp only [hn, Bool.not_true, Bool.false_or, Bool.not_eq_true'] at this
    intro h
    simp [h] at this
   ·obtain ⟨m', S'⟩ := S.next h1 hp
    exact hK _ _ _ _ S' h3
  ·exact h.elim
 ·rename_i j want hg
  split at h
  case h_2 => exact h.elim
  rename_i p d hb hd
  have hy : (allB p.1 = true ∧ yielded ops a.tmps j = some p.2) ∨ (allB p.1 = false ∧ yielded ops a.tmps j = none) := by
   unfold St.guard at hb
   split at hb
   case h_2 => cases hb
   rename_i t ht
   have hv := S.operands (.tmp t)
   have hyl : ∀ u, a.tmps.getD t undef = u → (∀ b, u = .bool b → yielded ops a.tmps j = some b) ∧ (u = undef → yielded ops a.tmps j = none) := fun u hu => by
    unfold yielded
    rw [ht]
    cases hq : a.tmps[t]? with
    | none =>
     simp [hq] at hu
     subst hu
     refine ⟨fun b h => by simp [undef] at h, fun _ => by simp [hq]⟩
    | some x =>
     simp [hq] at hu
     subst hu
     refine ⟨fun b h => by subst h; simp [hq], fun h => by subst h; simp [hq, undef]⟩
   unfold boolOf at hb
   split at hb
   ·rename_i b hl
    cases hb
    rw [hl] at hv
    generalize hu : a.eval (.tmp t) = u at hv
    cases hv with
    | d hv =>
    cases hv
    exact .inl ⟨rfl, (hyl _ hu).1 b rfl⟩
   ·rename_i gs b hl
    cases hb
    rw [hl] at hv
    generalize hu : a.eval (.tmp t) = u at hv
    cases hv with
    | gd hv hn =>
    cases hg : allB gs with
    | true =>
     have := hv hg
     cases this with
     | d this =>
     cases this
     exact .inl ⟨rfl, (hyl _ hu).1 b rfl⟩
    | false => exact .inr ⟨rfl, (hyl _ hu).2 (hn hg)⟩
   ·cases hb
  have hw : Region.wanted o (yielded ops a.tmps) = allB (gOf p want) := by
   rcases hy with ⟨h1, h2⟩ | ⟨h1, h2⟩
   ·simp only [Region.wanted, hg, h2, gOf, allB_append, h1, allB, Bool.true_and, Bool.and_true]
    cases p.2 <;> cases want <;> rfl
   ·simp only [Region.wanted, hg, h2, gOf, allB_append, h1, Bool.false_and]
    rfl
  have next : ∀ (c : AV) (v : Value) (w' : World) (m' : Nat → Value), d < s.n → subL c.ids s.used = true → Inv C m' w' s.hp → (∀ i, m' i = m i) → (∀ b, im C m w s.hp b → im C m' w' s.hp b ∧ w'.heap[b]? = w.heap[b]?) →
    (allB (gOf p want) = true → Val w' (im C m' w' s.hp) m' v c) → (allB (gOf p want) = false → v = undef) → Sat C m' { s with sl := (d, .gd (gOf p want) c) :: s.sl } (a.put o.dst v) w' := fun c v w' m' h3 h4 I' hm hk hv hn => by
   rw [hd]
   refine ⟨I', by simp [Act.put, S.size], S.defers, fun t c hl => ?_, S.heap, S.small, fun i hi => (hm i).trans (S.pin i hi)⟩
   rw [lookup_cons] at hl
   simp only
   rw [put_getD a d v t (by rw [S.size]; exact h3)]
   split at hl
   ·rename_i e0
    cases hl
    rw [if_pos e0]
    exact ⟨.gd hv hn, fun i hi => subL_mem h4 i hi⟩
   ·rename_i e0
    rw [if_neg e0]
    obtain ⟨q1, q2⟩ := S.slots t c hl
    exact ⟨q1.mono hk fun i _ => hm i, q2⟩
  split at h
  case h_2 =>
   obtain ⟨h3, hgt, h⟩ := h
   simp only [hw, hgt, Bool.false_eq_true, if_false]
   exact hK _ _ _ m (next .bad undef w m h3 rfl S.inv (fun _ => rfl) (fun _ h => ⟨h, rfl⟩) (fun hf => by rw [hgt] at hf; cases hf) (fun _ => rfl)) h
  rename_i e he
  cases hup : (e.up.isEmpty && !e.new) with
  | false =>
   rw [hup] at h
   obtain ⟨h3, h⟩ := h
   cases hgt : allB (gOf p want) with
   | true =>
    simp only [hw, hgt, if_true]
    rw [if_pos hgt] at h
    obtain ⟨k1, k2, k3⟩ := h
    have he' : (s.at (gOf p want)).effOf P Γ (o.dst.getD 0) o.op = some e := by rw [hd]; exact he
    refine .inl (eff_step hG (S.at hgt) he' k2 (fun hn => ?_) fun v w' hp => ?_)
    ·simp only [St.okB, Bool.and_eq_true] at k1
     have := k1.1.2
     simp only [hn, Bool.not_true, Bool.false_or, Bool.not_eq_true'] at this
     intro h
     have h : o.dst.getD 0 ∈ s.used := h
     simp [h] at this
    ·obtain ⟨m', S'⟩ := S.next k1 hp
     exact hK _ _ _ _ S' k3
   | false =>
    simp only [hw, hgt, Bool.false_eq_true, if_false]
    rw [if_neg (by rw [hgt]; decide)] at h
    exact hK _ _ _ m (next .bad undef w m h3 rfl S.inv (fun _ => rfl) (fun _ h => ⟨h, rfl⟩) (fun hf => by rw [hgt] at hf; cases hf) (fun _ => rfl)) h
  | true =>
  rw [hup] at h
  obtain ⟨h3, h4, h5, h6⟩ := h
  simp only [Bool.and_eq_true, List.isEmpty_iff, Bool.not_eq_true'] at hup
  obtain ⟨h1, h2⟩ := hup
  cases hgt : allB (gOf p want) with
  | true =>
   simp only [hw, hgt, if_true]
   have he' : (s.at (gOf p want)).effOf P Γ (o.dst.getD 0) o.op = some e := by rw [hd]; exact he
   refine .inl (eff_step hG (S.at hgt) he' (h5 hgt) (fun hn => by rw [h2] at hn; cases hn) fun v w' hp => ?_)
   obtain ⟨m', q1, q2, q3, q4⟩ := hp
   rw [h1] at q2 q3 q4
   exact hK _ _ _ m' (next e.val v w' m' h3 h4 q2 (fun i => q1 i fun hn => by rw [h2] at hn; cases hn) q4 (fun _ => q3) (fun hf => by rw [hgt] at hf; cases hf)) h6
  | false =>
   simp only [hw, hgt, Bool.false_eq_true, if_false]
   exact hK _ _ _ m (next e.val undef w m h3 h4 S.inv (fun _ => rfl) (fun _ h => ⟨h, rfl⟩) (fun hf => by rw [hgt] at hf; cases hf) (fun _ => rfl)) h6
theorem runOps_ok (hG : Gok P Γ) {ops : Array Oper} {Q : Exit → Act → World → Prop} {K : St → Prop} (hQ : ∀ a w s m, Sat C m s a w → K s → Q .normal a w) :
  ∀ (l : List Nat) (os : List Oper) (s : St) (m : Nat → Value) (a : Act) (w : World), os.length = l.length → (∀ (k i : Nat) (o : Oper), l[k]? = some i → os[k]? = some o → ops[i]? = some o) → Sat C m s a w → runOps P Γ ops os s K → wpOps P ops Q l a w
 | [], [], s, m, a, w, _, _, S, h => hQ a w s m S h
 | i :: l, o :: os, s, m, a, w, hl, ho, S, h => by
  rw [wpOps_cons]
  refine runOp_ok hG S (ho 0 i o rfl rfl) h fun a' w' s' m' S' h' => ?_
  exact runOps_ok hG hQ l os s' m' a' w' (by simpa using hl) (fun k i o e1 e2 => ho (k + 1) i o (by simpa using e1) (by simpa using e2)) S' h'
 | [], _ :: _, _, _, _, _, hl, _, _, _ => by simp at hl
 | _ :: _, [], _, _, _, _, hl, _, _, _ => by simp at hl
end
end Go.Proofs.Ytgbialeahdoelaa.Eng

end

section
namespace Go.Proofs.Ytgbialeahdoelaa.Eng
open Go
set_option linter.unusedVariables false
set_option linter.unusedSimpArgs false
def Mt (ρ : Nat → Nat) (born : List Nat) : AV → AV → Prop
 | _, .bad => True
 | .d x, .row o n => x = .v (.slice none 0 0) ∧ o ∈ born ∧ n = 0
 | .row o' n', .row o n => o ∉ born ∧ o' = ρ o ∧ n' = n
 | .ptr o' f', .ptr o f => o ∉ born ∧ o' = ρ o ∧ f' = f
 | .rp o' s' i' f', .rp o s i f => o ∉ born ∧ o' = ρ o ∧ s' = s ∧ i' = i ∧ f' = f
 | .agg l', .agg l => MtL ρ born l' l
 | .tup l', .tup l => MtL ρ born l' l
 | .fn g' l', .fn g l => g' = g ∧ MtL ρ born l' l
 | .d x', .d x => x' = x ∨ (x' = .v (.slice none 0 0) ∧ ∃ sz, x = .sl sz [])
 | .ep c' f', .ep c f => c' = c ∧ f' = f
 | _, _ => False
where MtL (ρ : Nat → Nat) (born : List Nat) : List AV → List AV → Prop
 | [], [] => True
 | c' :: l', c :: l => Mt ρ born c' c ∧ MtL ρ born l' l
 | _, _ => False
def MtO (ρ : Nat → Nat) (born : List Nat) : AObj → AObj → Prop
 | .cells e' l', .cells e l => e' = e ∧ Mt.MtL ρ born l' l ∧ allCell l = true
 | .row e' s' xs', .row e s xs => e' = e ∧ s' = s ∧ xs' = xs
 | _, _ => False
def liveIds : Hp → List Nat
 | [] => []
 | (o, some _) :: l => o :: liveIds l
 | (_, none) :: l => liveIds l
def distinct (ρ : Nat → Nat) (born : List Nat) : List Nat → Prop
 | [] => True
 | a :: l => (a ∉ born → ∀ b ∈ l, b ∉ born → b ≠ a → ρ b ≠ ρ a) ∧ distinct ρ born l
def LeBy (ρ : Nat → Nat) (born : List Nat) (s s2 : St) : Prop :=
 s2.n = s.n ∧ (∀ p ∈ s2.sl, ∃ c', s.sl.lookup p.1 = some c' ∧ Mt ρ born c' p.2) ∧
 (∀ p ∈ s2.hp, match p.2 with
  | some obj => if p.1 ∈ born then (match obj with | .row _ _ xs => xs = [] | _ => False) else ∃ obj', s.hp.get (ρ p.1) = some obj' ∧ MtO ρ born obj' obj
  | none => True) ∧
 distinct ρ born (liveIds s2.hp) ∧ (s2.sl.all fun p => subL p.2.ids s2.used) = true ∧ subL (upIds s2.hp) s2.used = true
def frA (h : Nat → Option AObj) (fr : List Nat) : AV → AV
 | .row o n => if fr.contains o then (match h o with
  | some (.row _ sz xs) => .d (.sl sz xs)
  | _ => .bad) else .row o n
 | .agg l => .agg (frL h fr l)
 | .tup l => .tup (frL h fr l)
 | c => c
where frL (h : Nat → Option AObj) (fr : List Nat) : List AV → List AV
 | [] => []
 | c :: l => frA h fr c :: frL h fr l
theorem frL_length (h : Nat → Option AObj) (fr : List Nat) : ∀ l, (frA.frL h fr l).length = l.length
 | [] => rfl
 | _ :: l => by simp [frA.frL, frL_length h fr l]
theorem frL_get (h : Nat → Option AObj) (fr : List Nat) : ∀ (l : List AV) (i : Nat) (c : AV), (frA.frL h fr l)[i]? = some c → ∃ c0, l[i]? = some c0 ∧ c = frA h fr c0
 | [], _, _, e => by cases e
 | c0 :: l, 0, c, e => by cases e; exact ⟨c0, rfl, rfl⟩
 | _ :: l, i + 1, c, e => frL_get h fr l i c (by simpa [frA.frL] using e)
mutual
theorem frA_nil (h : Nat → Option AObj) : ∀ c : AV, frA h [] c = c
 | .row _ _ => rfl
 | .agg l => by rw [frA, frL_nil h l]
 | .tup l => by rw [frA, frL_nil h l]
 | .d _ => rfl
 | .ptr _ _ => rfl
 | .ep _ _ => rfl
 | .rp _ _ _ _ => rfl
 | .fn _ _ => rfl
 | .gd _ _ => rfl
 | .bad => rfl
theorem frL_nil (h : Nat → Option AObj) : ∀ l : List AV, frA.frL h [] l = l
 | [] => rfl
 | c :: l => by rw [frA.frL, frA_nil h c, frL_nil h l]
end
mutual
theorem frA_ids (h : Nat → Option AObj) (fr : List Nat) : ∀ (c : AV), ∀ i ∈ (frA h fr c).ids, i ∈ c.ids
 | .row o n, i, hi => by
  simp only [frA] at hi
  split at hi
  ·split at hi <;> simp [AV.ids] at hi
  ·exact hi
 | .agg l, i, hi => frL_ids h fr l i hi
 | .tup l, i, hi => frL_ids h fr l i hi
 | .d _, _, hi => hi
 | .ptr _ _, _, hi => hi
 | .ep _ _, _, hi => hi
 | .rp _ _ _ _, _, hi => hi
 | .fn _ _, _, hi => hi
 | .gd _ _, _, hi => hi
 | .bad, _, hi => hi
theorem frL_ids (h : Nat → Option AObj) (fr : List Nat) : ∀ (l : List AV), ∀ i ∈ AV.ids.idsL (frA.frL h fr l), i ∈ AV.ids.idsL l
 | [], _, hi => hi
 | c :: l, i, hi => by
  simp only [frA.frL, AV.ids.idsL, List.mem_append] at hi ⊢
  rcases hi with hi | hi
  ·exact .inl (frA_ids h fr c i hi)
  ·exact .inr (frL_ids h fr l i hi)
end
theorem frA_val {C : Ctx} {m : Nat → Value} {w : World} {hp hp1 : Hp} (I : Inv C m w hp) (fr : List Nat) (hsub : ∀ o obj, hp1.get o = some obj → hp.get o = some obj) (hno : ∀ o ∈ fr, hp1.get o = none) {u : Value} {c : AV} (hv : Val w (im C m w hp) m u c) : Val w (im C m w hp1) m u (frA hp.get fr c) := by
 induction hv with
 | @row o n cap a e =>
  simp only [frA]
  split
  ·rename_i hf
   split
   ·rename_i e0 sz xs ho
    exact .d (e ▸ row_rd I ho hsub (hno o (by simpa using hf)))
   ·exact .bad _
  ·exact .row e
 | @agg us cs hn _ ih =>
  refine .agg (by rw [hn, frL_length]) fun i u c h1 h2 => ?_
  obtain ⟨c0, h3, rfl⟩ := frL_get _ _ _ i c h2
  exact ih i u c0 h1 h3
 | @tup us cs hn _ ih =>
  refine .tup (by rw [hn, frL_length]) fun i u c h1 h2 => ?_
  obtain ⟨c0, h3, rfl⟩ := frL_get _ _ _ i c h2
  exact ih i u c0 h1 h3
 | d r => exact (Val.d r).mono (I.drop hsub).2 (fun _ _ => rfl)
 | ptr e => exact .ptr e
 | rp e => exact .rp e
 | ep vs hs hi hw hr => exact (Val.ep vs hs hi hw hr).mono (I.drop hsub).2 (fun _ _ => rfl)
 | fn hn hv _ => exact (Val.fn hn hv).mono (I.drop hsub).2 (fun _ _ => rfl)
 | gd h1 h2 _ => exact (Val.gd h1 h2).mono (I.drop hsub).2 (fun _ _ => rfl)
 | bad u => exact .bad u
def St.frz (s : St) (fr : List Nat) : St := { s with sl := s.sl.map fun p => (p.1, frA s.hp.get fr p.2), hp := drops fr ++ s.hp }
theorem St.frz_nil (s : St) : s.frz [] = s := by
 obtain ⟨n, u, sl, hp⟩ := s
 simp only [St.frz, frA_nil, List.map_id', drops, List.map_nil, List.nil_append]
def Le (s s2 : St) : Prop := ∃ fr ρ born, (∀ i, 10000 ≤ i → ρ i = i ∧ i ∉ born) ∧ LeBy ρ born (s.frz fr) s2
theorem lookup_frA (h : Nat → Option AObj) (fr : List Nat) (l : List (Nat × AV)) (t : Nat) : (l.map fun p => (p.1, frA h fr p.2)).lookup t = (l.lookup t).map (frA h fr) := by
 induction l with
 | nil => rfl
 | cons p l ih =>
  obtain ⟨a, x⟩ := p
  rw [List.map_cons, lookup_cons, lookup_cons, ih]
  split <;> rfl
theorem Sat.frz {C : Ctx} {m : Nat → Value} {w : World} {a : Act} {s : St} (S : Sat C m s a w) (fr : List Nat) : Sat C m (s.frz fr) a w := by
 have hsub := drops_sub fr s.hp
 obtain ⟨I1, k1⟩ := S.inv.drop hsub
 refine ⟨I1, S.size, S.defers, fun t c hl => ?_, fun o obj ho => S.heap o obj (hsub o obj ho), S.small, S.pin⟩
 have hl : (s.sl.map fun p => (p.1, frA s.hp.get fr p.2)).lookup t = some c := hl
 rw [lookup_frA] at hl
 cases hx : s.sl.lookup t with
 | none => rw [hx] at hl; cases hl
 | some c0 =>
  rw [hx] at hl
  cases hl
  obtain ⟨q1, q2⟩ := S.slots t c0 hx
  refine ⟨?_, fun i hi => q2 i (frA_ids _ _ _ i hi)⟩
  exact frA_val S.inv fr hsub (fun o ho => by rw [drops_get, if_pos ho]) q1
theorem MtL_length {ρ : Nat → Nat} {born : List Nat} : ∀ {l' l : List AV}, Mt.MtL ρ born l' l → l'.length = l.length
 | [], [], _ => rfl
 | _ :: _, _ :: _, h => by simp [MtL_length h.2]
 | [], _ :: _, h => h.elim
 | _ :: _, [], h => h.elim
theorem MtL_get {ρ : Nat → Nat} {born : List Nat} : ∀ {l' l : List AV}, Mt.MtL ρ born l' l → ∀ (i : Nat) (c : AV), l[i]? = some c → ∃ c', l'[i]? = some c' ∧ Mt ρ born c' c
 | c' :: l', c :: l, h, 0, x, hx => by cases hx; exact ⟨c', rfl, h.1⟩
 | c' :: l', c :: l, h, i + 1, x, hx => by
  obtain ⟨y, h1, h2⟩ := MtL_get h.2 i x (by simpa using hx)
  exact ⟨y, by simpa using h1, h2⟩
 | [], [], _, _, _, hx => by simp at hx
 | [], _ :: _, h, _, _, _ => h.elim
 | _ :: _, [], h, _, _, _ => h.elim
theorem Val.mt {w : World} {im1 : Nat → Prop} {m m2 : Nat → Value} {ρ : Nat → Nat} {born : List Nat} (hm : ∀ o, o ∉ born → m2 o = m (ρ o)) (hb : ∀ o ∈ born, m2 o = .slice none 0 0) :
  ∀ {u : Value} {c' : AV}, Val w im1 m u c' → ∀ {c : AV}, Mt ρ born c' c → Val w im1 m2 u c := by
 intro u c' h
 induction h with
 | @d u x r =>
  intro c hc
  cases c with
  | bad => exact .bad _
  | d y =>
   rcases (show x = y ∨ (x = .v (.slice none 0 0) ∧ ∃ sz, y = .sl sz []) from hc) with h | ⟨h, sz, h2⟩
   ·subst h; exact .d r
   ·subst h; subst h2; cases r; exact .d (.nil sz)
  | row o n =>
   obtain ⟨rfl, h1, rfl⟩ := (show _ ∧ _ ∧ _ from hc)
   cases r
   exact .row (hb o h1)
  | _ => exact absurd hc (by simp [Mt])
 | @agg us cs hn _ ih =>
  intro c hc
  cases c with
  | bad => exact .bad _
  | agg l =>
   have hc : Mt.MtL ρ born cs l := hc
   exact .agg (by rw [hn, MtL_length hc]) fun i u x h1 h2 => by
    obtain ⟨y, h3, h4⟩ := MtL_get hc i x h2
    exact ih i u y h1 h3 h4
  | _ => exact absurd hc (by simp [Mt])
 | @ptr o off b e =>
  intro c hc
  cases c with
  | bad => exact .bad _
  | ptr o' f' =>
   obtain ⟨h1, rfl, rfl⟩ := (show _ ∧ _ ∧ _ from hc)
   exact .ptr (by rw [hm _ h1]; exact e)
  | _ => exact absurd hc (by simp [Mt])
 | @ep a cs off vs hs hi hw hr =>
  intro c hc
  cases c with
  | bad => exact .bad _
  | ep l f => obtain ⟨rfl, rfl⟩ := (show _ ∧ _ from hc); exact .ep vs hs hi hw hr
  | _ => exact absurd hc (by simp [Mt])
 | @row o n cap a e =>
  intro c hc
  cases c with
  | bad => exact .bad _
  | row o' n' => obtain ⟨h1, rfl, rfl⟩ := (show _ ∧ _ ∧ _ from hc); exact .row (by rw [hm _ h1]; exact e)
  | _ => exact absurd hc (by simp [Mt])
 | @rp o sz i off b n cap e =>
  intro c hc
  cases c with
  | bad => exact .bad _
  | rp o' s' i' f' => obtain ⟨h1, rfl, rfl, rfl, rfl⟩ := (show _ ∧ _ ∧ _ ∧ _ ∧ _ from hc); exact .rp (by rw [hm _ h1]; exact e)
  | _ => exact absurd hc (by simp [Mt])
 | @fn f us cs hn _ ih =>
  intro c hc
  cases c with
  | bad => exact .bad _
  | fn g l =>
   obtain ⟨rfl, hc2⟩ := (show _ ∧ Mt.MtL ρ born cs l from hc)
   exact .fn (by rw [hn, MtL_length hc2]) fun i u x h1 h2 => by
    obtain ⟨y, h3, h4⟩ := MtL_get hc2 i x h2
    exact ih i u y h1 h3 h4
  | _ => exact absurd hc (by simp [Mt])
 | @tup us cs hn _ ih =>
  intro c hc
  cases c with
  | bad => exact .bad _
  | tup l =>
   have hc : Mt.MtL ρ born cs l := hc
   exact .tup (by rw [hn, MtL_length hc]) fun i u x h1 h2 => by
    obtain ⟨y, h3, h4⟩ := MtL_get hc i x h2
    exact ih i u y h1 h3 h4
  | _ => exact absurd hc (by simp [Mt])
 | gd _ _ =>
  intro c hc
  cases c with
  | bad => exact .bad _
  | _ => exact absurd hc (by simp [Mt])
 | bad u =>
  intro c hc
  cases c with
  | bad => exact .bad _
  | _ => exact absurd hc (by simp [Mt])
def Sub (c res : AV) : Prop := c = res ∨ Mt id [] c res
@[refl] theorem Sub.refl (c : AV) : Sub c c := .inl rfl
theorem Sub.nil (sz : Nat) : Sub (.d (.v (.slice none 0 0))) (.d (.sl sz [])) := .inr (.inr ⟨rfl, sz, rfl⟩)
theorem Sub.eq {c res : AV} (h : c = res) : Sub c res := .inl h
theorem Sub.tup {l l' : List AV} (h : Mt.MtL id [] l l') : Sub (.tup l) (.tup l') := .inr h
theorem Val.sub {w : World} {im1 : Nat → Prop} {m : Nat → Value} {u : Value} {c res : AV} (hv : Val w im1 m u c) (h : Sub c res) : Val w im1 m u res := by
 rcases h with rfl | h
 ·exact hv
 ·exact hv.mt (m2 := m) (ρ := id) (born := []) (fun _ _ => rfl) (fun _ h => by cases h) h
theorem get_mem {hp : Hp} {o : Nat} {obj : AObj} (h : hp.get o = some obj) : (o, some obj) ∈ hp ∧ o ∈ liveIds hp := by
 induction hp with
 | nil => simp [Hp.get] at h
 | cons p l ih =>
  obtain ⟨a, x⟩ := p
  rw [Hp.get_cons] at h
  split at h
  ·rename_i e
   subst e
   subst h
   simp [liveIds]
  ·obtain ⟨h1, h2⟩ := ih h
   refine ⟨List.mem_cons_of_mem _ h1, ?_⟩
   cases x <;> simp [liveIds, h2]
theorem distinct_spec {ρ : Nat → Nat} {born : List Nat} : ∀ {l : List Nat}, distinct ρ born l → ∀ a ∈ l, ∀ b ∈ l, a ∉ born → b ∉ born → a ≠ b → ρ a ≠ ρ b
 | x :: l, ⟨h1, h2⟩, a, ha, b, hb, na, nb, hne => by
  rcases List.mem_cons.1 ha with ea | ha' <;> rcases List.mem_cons.1 hb with eb | hb'
  ·exact absurd (ea.trans eb.symm) hne
  ·subst ea; exact fun e => h1 na b hb' nb (fun q => hne q.symm) e.symm
  ·subst eb; exact h1 nb a ha' na hne
  ·exact distinct_spec h2 a ha' b hb' na nb hne
theorem lookup_mem {l : List (Nat × AV)} {t : Nat} {c : AV} (h : l.lookup t = some c) : (t, c) ∈ l := by
 induction l with
 | nil => cases h
 | cons p l ih =>
  obtain ⟨a, x⟩ := p
  rw [lookup_cons] at h
  split at h
  ·rename_i e; cases h; subst e; exact List.mem_cons_self
  ·exact List.mem_cons_of_mem _ (ih h)
theorem upIds_mem {hp : Hp} {o : Nat} {obj : AObj} (h : (o, some obj) ∈ hp) : o ∈ upIds hp ∧ ∀ i ∈ obj.ids, i ∈ upIds hp := by
 induction hp with
 | nil => cases h
 | cons p l ih =>
  obtain ⟨a, x⟩ := p
  rcases List.mem_cons.1 h with e | h
  ·cases e; simp only [upIds, List.mem_append, List.mem_cons, true_or, true_and]; exact fun i hi => .inl (.inr hi)
  ·obtain ⟨h1, h2⟩ := ih h
   cases x with
   | none => exact ⟨h1, h2⟩
   | some y => simp only [upIds, List.mem_append, List.mem_cons]; exact ⟨.inr h1, fun i hi => .inr (h2 i hi)⟩
section
variable {P : Program} {Γ : Gam} {C : Ctx} {m : Nat → Value} {w : World} {a : Act} {s s2 : St}
theorem Sat.le (S : Sat C m s a w) (h : Le s s2) : ∃ m2, Sat C m2 s2 a w := by
 obtain ⟨fr, ρ, born, hpin, h1, h2, h3, h4, h5, h6⟩ := h
 replace S := S.frz fr
 generalize s.frz fr = s at S h1 h2 h3
 let m2 : Nat → Value := fun o => if o ∈ born then .slice none 0 0 else m (ρ o)
 have mb : ∀ o ∈ born, m2 o = .slice none 0 0 := fun o h => if_pos h
 have mn : ∀ o, o ∉ born → m2 o = m (ρ o) := fun o h => if_neg h
 have obj_of : ∀ o obj, s2.hp.get o = some obj → (o ∈ born ∧ ∃ e sz, obj = .row e sz []) ∨ (o ∉ born ∧ ∃ obj', s.hp.get (ρ o) = some obj' ∧ MtO ρ born obj' obj) := fun o obj ho => by
  have := h3 _ (get_mem ho).1
  simp only at this
  split at this
  ·rename_i hb
   refine .inl ⟨hb, ?_⟩
   cases obj with
   | cells _ cs => exact this.elim
   | row e sz xs => simp only at this; subst this; exact ⟨e, sz, rfl⟩
  ·rename_i hb
   exact .inr ⟨hb, this⟩
 have him : ∀ b, im C m w s.hp b → im C m2 w s2.hp b ∧ w.heap[b]? = w.heap[b]? := fun b hb => by
  refine ⟨⟨hb.1, hb.2.1, fun o obj ho => ?_⟩, rfl⟩
  rcases obj_of o obj ho with ⟨h, _⟩ | ⟨h, obj', h', _⟩
  ·rw [mb o h]; simp [blk]
  ·rw [mn o h]; exact hb.2.2 _ _ h'
 refine ⟨m2, ⟨S.inv.os, S.inv.tape, S.inv.output, S.inv.size, S.inv.frame, fun o obj ho => ?_, fun o o' obj obj' b ho ho' hne hb => ?_, fun o obj b ho hb => ?_⟩, by rw [S.size, h1], S.defers, fun t c hl => ?_, fun o obj ho => ?_, by rw [h1]; exact S.small, fun i hi => by rw [mn i (hpin i hi).2, (hpin i hi).1]; exact S.pin i hi⟩
 ·rcases obj_of o obj ho with ⟨h, e, sz, rfl⟩ | ⟨h, obj', h', hmt⟩
  ·exact ⟨[], by rw [mb o h]; exact World.ownsRow_nil w 0 e sz, by simp, by simp⟩
  ·have := (S.inv.live _ _ h').mono him (fun _ _ => rfl) rfl (fun _ _ => rfl)
   cases obj with
   | cells e l =>
    cases obj' with
    | row _ _ _ => exact hmt.elim
    | cells e' l' =>
     obtain ⟨rfl, hmt, hcell⟩ := hmt
     obtain ⟨b, us, q1, q2, q3, q4, q5⟩ := this
     refine ⟨b, us, by rw [mn o h]; exact q1, q2, by rw [q3]; exact MtL_length hmt, fun i u c r1 r2 => ?_, fun c hc => List.all_eq_true.1 hcell c hc⟩
     obtain ⟨y, r3, r4⟩ := MtL_get hmt i c r2
     exact (q4 i u y r1 r3).mt mn mb r4
   | row e sz xs =>
    cases obj' with
    | cells _ _ => exact hmt.elim
    | row e' sz' xs' =>
     obtain ⟨rfl, rfl, rfl⟩ := hmt
     obtain ⟨us, q1, q2⟩ := this
     exact ⟨us, by rw [mn o h]; exact q1, q2⟩
 ·rcases obj_of o obj ho with ⟨h, _⟩ | ⟨h, x, hx, _⟩
  ·rw [mb o h] at hb; cases hb
  ·rcases obj_of o' obj' ho' with ⟨h', _⟩ | ⟨h', x', hx', _⟩
   ·rw [mb o' h']; simp [blk]
   ·rw [mn o h] at hb
    rw [mn o' h']
    exact S.inv.sep _ _ _ _ b hx hx' (distinct_spec h4 o (get_mem ho).2 o' (get_mem ho').2 h h' hne) hb
 ·rcases obj_of o obj ho with ⟨h, _⟩ | ⟨h, x, hx, _⟩
  ·rw [mb o h] at hb; cases hb
  ·rw [mn o h] at hb; exact S.inv.own _ _ b hx hb
 ·obtain ⟨c', hc', hmt⟩ := h2 _ (lookup_mem hl)
  exact ⟨((S.slots t c' hc').1.mono him (fun _ _ => rfl)).mt mn mb hmt, fun i hi => subL_mem (List.all_eq_true.1 h5 _ (lookup_mem hl)) i hi⟩
 ·obtain ⟨q1, q2⟩ := upIds_mem (get_mem ho).1
  exact ⟨subL_mem h6 o q1, fun i hi => subL_mem h6 i (q2 i hi)⟩

def thenS (next : St → Prop) (Q : Exit → St → Prop) : Exit → St → Prop
 | .normal, s => next s
 | e, s => Q e s
def inBlockS (id : Nat) (Q : Exit → St → Prop) : Exit → St → Prop
 | .exit j, s => if j = id then Q .normal s else Q (.exit j) s
 | e, s => Q e s
def condS (s : St) (c : Operand) (x y : Prop) : Prop :=
 match s.look c with
 | .d (.v (.bool b)) => if b = true then x else y
 | _ => False
def wpc (P : Program) (Γ : Gam) (drawOk : Array Oper → St → (St → Prop) → Prop) : Code → (Exit → St → Prop) → St → Prop
 | .skip, Q, s => Q .normal s
 | .region _ ops false, Q, s => runOps P Γ ops ops.toList s (Q .normal)
 | .region _ ops true, Q, s => drawOk ops s (Q .normal)
 | .seq x y, Q, s => wpc P Γ drawOk x (thenS (wpc P Γ drawOk y Q) Q) s
 | .cond c x y, Q, s => condS s c (wpc P Γ drawOk x Q s) (wpc P Γ drawOk y Q s)
 | .block id x, Q, s => wpc P Γ drawOk x (inBlockS id Q) s
 | .loop x, Q, s => ∃ I : Nat → St → Prop, (∃ n s2, Le s s2 ∧ I n s2) ∧ ∀ n s, I n s → wpc P Γ drawOk x (thenS (fun s' => ∃ n' s2, n' < n ∧ Le s' s2 ∧ I n' s2) Q) s
 | .exit id, Q, s => Q (.exit id) s
 | .ret, Q, s => Q .ret s
 | _, _, _ => False
def Lift (C : Ctx) (Q : Exit → St → Prop) (e : Exit) (a : Act) (w : World) : Prop := ∃ s m, Sat C m s a w ∧ Q e s
def DrawOk (P : Program) (Γ : Gam) (drawOk : Array Oper → St → (St → Prop) → Prop) : Prop :=
 ∀ (C : Ctx) (id : Nat) (ops : Array Oper) (Q : Exit → St → Prop) (s : St) (m : Nat → Value) (a : Act) (w : World), drawOk ops s (Q .normal) → Sat C m s a w → (Code.region id ops true).wp P (Lift C Q) a w
theorem wpc_ok (hG : Gok P Γ) {drawOk : Array Oper → St → (St → Prop) → Prop} (hD : DrawOk P Γ drawOk) : ∀ (c : Code) (Q : Exit → St → Prop) (s : St) (m : Nat → Value) (a : Act) (w : World), wpc P Γ drawOk c Q s → Sat C m s a w → c.wp P (Lift C Q) a w
 | .skip, Q, s, m, a, w, h, S => wp_skip ⟨s, m, S, h⟩
 | .region id ops true, Q, s, m, a, w, h, S => hD C id ops Q s m a w h S
 | .region id ops false, Q, s, m, a, w, h, S => by
  refine wp_region (runOps_ok hG (K := Q .normal) (fun a w s m S h => ⟨s, m, S, h⟩) _ ops.toList s m a w (by simp) (fun k i o e1 e2 => ?_) S h)
  rw [Array.getElem?_toList] at e2
  have hk : k < ops.size := (Array.getElem?_eq_some_iff.1 e2).1
  rw [List.getElem?_range hk] at e1
  cases e1
  exact e2
 | .seq x y, Q, s, m, a, w, h, S => by
  refine wp_seq (wp_mono (wpc_ok hG hD x _ s m a w h S) fun e a' w' hq => ?_)
  obtain ⟨s', m', S', hq⟩ := hq
  cases e with
  | normal => exact wpc_ok hG hD y Q s' m' a' w' hq S'
  | _ => exact ⟨s', m', S', hq⟩
 | .cond c x y, Q, s, m, a, w, h, S => by
  have h : condS s c (wpc P Γ drawOk x Q s) (wpc P Γ drawOk y Q s) := h
  unfold condS at h
  split at h
  case h_2 => exact h.elim
  rename_i b hb
  have hv := S.operands c
  rw [hb] at hv
  generalize hu : a.eval c = u at hv
  cases hv with
  | d hv =>
  cases hv
  refine wp_cond hu ?_
  cases b with
  | true => exact wpc_ok hG hD x Q s m a w h S
  | false => exact wpc_ok hG hD y Q s m a w h S
 | .block id x, Q, s, m, a, w, h, S => by
  refine wp_block (wp_mono (wpc_ok hG hD x _ s m a w h S) fun e a' w' hq => ?_)
  obtain ⟨s', m', S', hq⟩ := hq
  cases e with
  | exit j =>
   show if j = id then _ else _
   have hq : if j = id then Q .normal s' else Q (.exit j) s' := hq
   split
   ·rename_i e; rw [if_pos e] at hq; exact ⟨s', m', S', hq⟩
   ·rename_i e; rw [if_neg e] at hq; exact ⟨s', m', S', hq⟩
  | _ => exact ⟨s', m', S', hq⟩
 | .loop x, Q, s, m, a, w, h, S => by
  obtain ⟨I, ⟨n, s2, hle, hI⟩, hround⟩ := h
  obtain ⟨m2, S2⟩ := S.le hle
  refine wp_loop_ghost (fun n a w => ∃ s m, Sat C m s a w ∧ I n s) n ⟨s2, m2, S2, hI⟩ fun n a w hJ => ?_
  obtain ⟨s, m, S, hI⟩ := hJ
  refine wp_mono (wpc_ok hG hD x _ s m a w (hround n s hI) S) fun e a' w' hq => ?_
  obtain ⟨s', m', S', hq⟩ := hq
  cases e with
  | normal =>
   obtain ⟨n', s2, hlt, hle, hI'⟩ := hq
   obtain ⟨m2, S2⟩ := S'.le hle
   exact ⟨n', hlt, s2, m2, S2, hI'⟩
  | _ => exact ⟨s', m', S', hq⟩
 | .exit id, Q, s, m, a, w, h, S => wp_exit ⟨s, m, S, h⟩
 | .ret, Q, s, m, a, w, h, S => wp_ret ⟨s, m, S, h⟩
 | .rangeFunc _ _ _ _, _, _, _, _, _, h, _ => h.elim
 | .scope _, _, _, _, _, _, h, _ => h.elim
 | .label _, _, _, _, _, _, h, _ => h.elim
 | .goto _, _, _, _, _, _, h, _ => h.elim
 | .refuse _, _, _, _, _, _, h, _ => h.elim
end
end Go.Proofs.Ytgbialeahdoelaa.Eng

end
