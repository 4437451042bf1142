/- Values computed of values, on the small machine. -/
import Derived.Test.YtlhhibhcoefolaaEngOp6
import Derived.Lib.ConvBytes
import Derived.Laws.BytesArg
import Derived.Laws.Build
import Derived.Laws.StructEq
namespace Go.Proofs.Ytlhhibhcoefolaa.Eng
open Go
def vInt (k : IntKind) (n : Int) : AV := .d (.v (.int k n))
def vBool (b : Bool) : AV := .d (.v (.bool b))
def vStr (s : ByteArray) : AV := .d (.v (.string s))
/-- Two leaves, compared. -/
def leafEq : TyD → AV → AV → Option Bool
  | .int _, .d (.v (.int k a)), .d (.v (.int k' b)) => if k = k' then some (a == b) else none
  | .bool, .d (.v (.bool a)), .d (.v (.bool b)) => some (a == b)
  | .str, .d (.v (.string a)), .d (.v (.string b)) => some (a.toList == b.toList)
  | _, _, _ => none
def fieldsEq (P : Program) (xs ys : List AV) : List (Nat × Nat) → Option Bool
  | [] => some true
  | (o, t) :: fs => match ti P t with
    | some T => if T.d.agg then none else
      if o < xs.length ∧ o < ys.length then
        match leafEq T.d (xs.getD o .bad) (ys.getD o .bad), fieldsEq P xs ys fs with
        | some a, some b => some (a && b)
        | _, _ => none else none
    | none => none
/-- Does the model know the struct as one that can be compared field by field. -/
def plainEq (P : Program) (t : Nat) : Bool := !(P.eqGuardType P.depth t) && !(P.stoodInHeld t) && (match P.underlying t with | some (.struct fs) => fs.all fun f => f.name != "_" | _ => false)
def eqAV (P : Program) (t : Nat) (x y : AV) : Option Bool :=
  match ti P t with
  | some T => match T.d, x, y with
    | .struct fs, .agg xs, .agg ys => if plainEq P t then fieldsEq P xs ys fs else none
    | .bool, .d (.v (.bool a)), .d (.v (.bool b)) => some (a == b)
    | .slice _, .d (.v (.slice a _ _)), .d (.v (.slice none _ _)) => some a.isNone
    | .slice _, .d (.sl _ (_ :: _)), .d (.v (.slice none _ _)) => some false
    | _, _, _ => none
  | none => none
def effBin (P : Program) (op : BinOp) (t : Nat) (x y : AV) : Option Eff :=
  match x, y with
  | .d (.v (.int k a)), .d (.v (.int k' b)) => match op with
    | .shl => some { sc := 0 ≤ b, val := vInt k (k.wrap (a * 2 ^ (min b.toNat k.bits))) }
    | .shr => some { sc := 0 ≤ b, val := vInt k (a.fdiv (2 ^ (min b.toNat k.bits))) }
    | .add => if k = k' then some { sc := True, val := vInt k (k.wrap (a + b)) } else none
    | .sub => if k = k' then some { sc := True, val := vInt k (k.wrap (a - b)) } else none
    | .mul => if k = k' then some { sc := True, val := vInt k (k.wrap (a * b)) } else none
    | .quo => if k = k' then some { sc := b ≠ 0, val := vInt k (k.wrap (a.tdiv b)) } else none
    | .rem => if k = k' then some { sc := b ≠ 0, val := vInt k (a.tmod b) } else none
    | .and => if k = k' then some { sc := True, val := vInt k (bits .and k a b) } else none
    | .or => if k = k' then some { sc := True, val := vInt k (bits .or k a b) } else none
    | .xor => if k = k' then some { sc := True, val := vInt k (bits .xor k a b) } else none
    | .andNot => if k = k' then some { sc := True, val := vInt k (bits .andNot k a b) } else none
    | .eql => if k = k' then some { sc := True, val := vBool (a == b) } else none
    | .neq => if k = k' then some { sc := True, val := vBool (a != b) } else none
    | .lss => if k = k' then some { sc := True, val := vBool (decide (a < b)) } else none
    | .leq => if k = k' then some { sc := True, val := vBool (decide (a ≤ b)) } else none
    | .gtr => if k = k' then some { sc := True, val := vBool (decide (a > b)) } else none
    | .geq => if k = k' then some { sc := True, val := vBool (decide (a ≥ b)) } else none
  | .d (.v (.string a)), .d (.v (.string b)) => match op with
    | .add => some { sc := ((a.size + b.size : Nat) : Int) ≤ 9223372036854775807, val := vStr (a ++ b) }
    | .eql => some { sc := True, val := vBool (a.toList == b.toList) }
    | .neq => some { sc := True, val := vBool (!(a.toList == b.toList)) }
    | .lss => some { sc := True, val := vBool (Op.bytesLess a.toList b.toList) }
    | _ => none
  | x, y => match op, eqAV P t x y with
    | .eql, some b => some { sc := True, val := vBool b }
    | .neq, some b => some { sc := True, val := vBool (!b) }
    | _, _ => none
/-- Is it a type of interfaces. -/
def isIface (P : Program) (t : Nat) : Bool := match P.underlying t with | some (.interface _) => true | _ => false
def isConst : Operand → Bool
  | .const _ => true
  | _ => false
/-- Two of which one stands in the text: also where no interface is held. -/
def effBinC (P : Program) (op : BinOp) (t : Nat) (c : Bool) (x y : AV) : Option Eff :=
  match x with
  | .d (.v (.int k a)) => effBin P op t (.d (.v (.int k a))) y
  | .d (.v (.string a)) => effBin P op t (.d (.v (.string a))) y
  | .d (.v (.bool a)) => effBin P op t (.d (.v (.bool a))) y
  | .d (.sl n xs) => effBin P op t (.d (.sl n xs)) y
  | .agg cs => effBin P op t (.agg cs) y
  | .d (.v .nilIface) => match y with
    | .d (.v .nilIface) => if c = true then if isIface P t = true then
      match op with
      | .eql => some { sc := True, val := vBool true }
      | .neq => some { sc := True, val := vBool false }
      | _ => none else none else none
    | _ => none
  | x => effBin P op t x y
def effUn (op : UnOp) : AV → Option Eff
  | .d (.v (.int k n)) => match op with
    | .neg => some { sc := True, val := vInt k (k.wrap (0 - n)) }
    | _ => none
  | .d (.v (.bool b)) => match op with
    | .not => some { sc := True, val := vBool (!b) }
    | _ => none
  | _ => none
/-- The byte that a row of one cell holds. -/
def byteOf : List Dat → Int
  | [.v (.int .u8 n)] => n
  | _ => -1
def effConv (P : Program) (h : Nat → Option AObj) (src dst : Nat) (x : AV) : Option Eff :=
  match ti P src, ti P dst with
  | some S, some D => match D.d, x with
    | .int k, .d (.v (.int _ n)) => some { sc := True, val := vInt k (k.wrap n) }
    | .str, .d (.v (.int _ n)) => some { sc := True, val := vStr (Utf8.encode n) }
    | .str, .d (.v (.string s)) => some { sc := True, val := vStr s }
    | .slice e, .d (.v (.string s)) => match ti P e with
      | some E => match E.d with
        | .int .u8 => some { sc := True, val := .d (.sl 1 (s.data.toList.map byteRow)) }
        | _ => none
      | none => none
    | .str, .d (.sl sz xs) => match S.d with
      | .slice e => match ti P e with
        | some E => match E.d with
          | .int .u8 => if sz = 1 then some { sc := ∀ r ∈ xs, r = [.v (.int .u8 (byteOf r))], val := vStr (strOfNums (xs.map byteOf)) } else none
          | _ => none
        | none => none
      | _ => none
    | .str, .row o _ => match S.d, h o with
      | .slice e, some (.row _ sz xs) => match ti P e with
        | some E => match E.d with
          | .int .u8 => if sz = 1 then some { sc := ∀ r ∈ xs, r = [.v (.int .u8 (byteOf r))], val := vStr (strOfNums (xs.map byteOf)) } else none
          | _ => none
        | none => none
      | _, _ => none
    | .slice e, .row o _ => match S.d, h o, ti P e with
      | .slice _, some (.row _ sz (x :: xs)), some E => match E.d with
        | .int .u8 => if src = dst then some { sc := True, val := .d (.sl sz (x :: xs)), up := [(o, none)] } else none
        | _ => none
      | _, _, _ => none
    | _, _ => none
  | _, _ => none
def fold1 (f : Int → Int → Int) (k : IntKind) (a : Int) : List AV → Option Int
  | [] => some a
  | .d (.v (.int k' b)) :: l => if k = k' then fold1 f k (f a b) l else none
  | _ => none
def mx (a b : Int) : Int := if b > a then b else a
def mn (a b : Int) : Int := if b < a then b else a
def effFold (f : Int → Int → Int) : List AV → Option Eff
  | .d (.v (.int k a)) :: l => match fold1 f k a l with
    | some n => some { sc := True, val := vInt k n }
    | none => none
  | _ => none
def effNil : AV → Option Eff
  | .ptr o off => some { sc := True, val := .ptr o off }
  | .ep cs off => some { sc := True, val := .ep cs off }
  | .rp o sz i off => some { sc := True, val := .rp o sz i off }
  | .fn f cs => some { sc := True, val := .fn f cs }
  | _ => none
/-- What a value is where all of G hold. -/
def strip : List Bool → List Bool → AV → AV
  | [], [], c => c
  | [], g :: gs, c => .gd (g :: gs) c
  | _ :: _, [], c => c
  | h :: hs, g :: gs, c => if g = h then strip hs gs c else .bad
def unw (G : List Bool) : AV → AV
  | .gd gs c => strip G gs c
  | c => c
def effPick (c a b : AV) : Option Eff :=
  match c with
  | .d (.v (.bool c)) => match unw [c] a, unw [!c] b with
    | .d (.v (.bool x)), .d (.v (.bool y)) => some { sc := True, val := vBool (if c then x else y) }
    | a, b => some { sc := True, val := if c then a else b }
  | _ => none
section
variable {P : Program} {C : Ctx} {m : Nat → Value} {w : World} {hp : Hp} {d : Nat} {sc : Prop}
theorem strip_val {im : Nat → Prop} : ∀ {G gs : List Bool}, allB G = true → ∀ {u : Value} {c : AV}, (allB gs = true → Val w im m u c) → (allB gs = false → u = undef) → Val w im m u (strip G gs c)
  | [], [], _, u, c, h, _ => h rfl
  | [], _ :: _, _, u, c, h, hn => .gd h hn
  | _ :: _, [], _, u, c, h, _ => h rfl
  | a :: G, g :: gs, hG, u, c, h, hn => by
    simp only [strip]
    split
    · rename_i e
      subst e
      simp only [allB, Bool.and_eq_true] at hG
      exact strip_val hG.2 (fun hg => h (by simp [allB, hG.1, hg])) (fun hg => hn (by simp [allB, hg]))
    · exact .bad _
theorem unw_val {im : Nat → Prop} {G : List Bool} (hG : allB G = true) {u : Value} {c : AV} (h : Val w im m u c) : Val w im m u (unw G c) := by
  cases h with
  | gd h hn => exact strip_val hG h hn
  | _ => simp only [unw]; constructor <;> assumption
theorem effUn_ok (I : Inv C m w hp) {op : UnOp} {x : AV} {u : Value} {e : Eff} (he : effUn op x = some e) (hx : Val w (im C m w hp) m u x) : Ok C m w hp d e ((Op.unary op u).run P w) := by
  unfold effUn at he
  split at he
  · cases hx with | d hx => cases hx; cases op <;> first | (cases he; exact Ok.same I (.d (.v rfl))) | cases he
  · cases hx with | d hx => cases hx; cases op <;> first | (cases he; exact Ok.same I (.d (.v rfl))) | cases he
  · cases he
theorem effNil_ok (I : Inv C m w hp) {o : Oper} {ρ : Operand → Value} {x : Operand} {a : AV} {e : Eff} (ho : o.op = .nilCheck x) (he : effNil a = some e) (hx : Val w (im C m w hp) m (ρ x) a) : ∃ u, (execOp ρ o).run P w = .ok (.value u) w ∧ Ok C m w hp d e (.ok u w) := by
  unfold execOp
  rw [ho]
  simp only
  generalize ρ x = u at hx
  cases hx with
  | ptr hm => cases he; exact ⟨_, rfl, Ok.same I (.ptr hm)⟩
  | ep vs h1 h2 h3 h4 => cases he; exact ⟨_, rfl, Ok.same I (.ep vs h1 h2 h3 h4)⟩
  | rp hm => cases he; exact ⟨_, rfl, Ok.same I (.rp hm)⟩
  | fn h1 h2 => cases he; exact ⟨_, rfl, Ok.same I (.fn h1 h2)⟩
  | _ => cases he
theorem effPick_ok (I : Inv C m w hp) {c a b : AV} {uc ua ub : Value} {e : Eff} (he : effPick c a b = some e) (hc : Val w (im C m w hp) m uc c) (ha : Val w (im C m w hp) m ua a) (hb : Val w (im C m w hp) m ub b) :
    Ok C m w hp d e ((do pure (if ← asBool uc then ua else ub) : Sem Value).run P w) := by
  unfold effPick at he
  split at he
  · cases hc with
    | d hc =>
    cases hc
    simp only [asBool, Sem.run_bind, Sem.run_pure, Result.andThen_ok]
    rename_i c _
    have undv : ∀ {g : Bool} {u : Value} {c : AV}, g = true → Val w (im C m w hp) m u c → Val w (im C m w hp) m u (unw [g] c) := fun {g u c} hg h => unw_val (by simp [allB, hg]) h
    split at he
    · rename_i x y hx hy
      cases he
      cases c
      · have := undv (g := !false) rfl hb
        rw [hy] at this
        exact Ok.same I this
      · have := undv (g := true) rfl ha
        rw [hx] at this
        exact Ok.same I this
    · cases he
      cases c
      · exact Ok.same I (undv (g := !false) rfl hb)
      · exact Ok.same I (undv (g := true) rfl ha)
  · cases he
theorem fold_ok {im : Nat → Prop} (f : Int → Int → Int) (g : Value → Value → Sem Value) (hg : ∀ k a b w, (g (.int k a) (.int k b)).run P w = .ok (.int k (f a b)) w) :
    ∀ (l : List AV) (us : List Value) (k : IntKind) (a n : Int), us.length = l.length → (∀ (i : Nat) (u : Value) (c : AV), us[i]? = some u → l[i]? = some c → Val w im m u c) → fold1 f k a l = some n → (us.foldlM g (.int k a)).run P w = .ok (.int k n) w
  | [], [], k, a, n, _, _, h => by cases h; rfl
  | c :: l, u :: us, k, a, n, hl, hv, h => by
    have h0 := hv 0 u c rfl rfl
    unfold fold1 at h
    split at h
    · rename_i e; cases e
    · rename_i k' b l' e
      cases e
      split at h
      · rename_i hk
        subst hk
        cases h0 with
        | d h0 =>
        cases h0
        simp only [List.foldlM_cons, Sem.run_bind, hg, Result.andThen_ok]
        exact fold_ok f g hg l us k (f a b) n (by simpa using hl) (fun i u c h1 h2 => hv (i + 1) u c (by simpa using h1) (by simpa using h2)) h
      · cases h
    · cases h
  | [], _ :: _, _, _, _, hl, _, _ => by simp at hl
  | _ :: _, [], _, _, _, hl, _, _ => by simp at hl
theorem effFold_ok (I : Inv C m w hp) {f : Int → Int → Int} {g : Value → Value → Sem Value} (hg : ∀ k a b w, (g (.int k a) (.int k b)).run P w = .ok (.int k (f a b)) w) {l : List AV} {us : Array Value} {e : Eff} (he : effFold f l = some e) (hl : us.size = l.length)
    (hv : ∀ (i : Nat) (u : Value) (c : AV), us[i]? = some u → l[i]? = some c → Val w (im C m w hp) m u c) : ∃ x rest, us.toList = x :: rest ∧ Ok C m w hp d e ((rest.foldlM g x).run P w) := by
  unfold effFold at he
  split at he
  · rename_i k a l
    split at he
    · rename_i n hn
      cases he
      obtain ⟨us⟩ := us
      cases us with
      | nil => simp at hl
      | cons x rest =>
        refine ⟨x, rest, rfl, ?_⟩
        have h0 := hv 0 x _ rfl rfl
        cases h0 with
        | d h0 =>
        cases h0
        rw [fold_ok f g hg l rest k a n (by simpa using hl) (fun i u c h1 h2 => hv (i + 1) u c (by simpa using h1) (by simpa using h2)) hn]
        exact Ok.same I (.d (.v rfl))
    · cases he
  · cases he
theorem tyd_int {d : TypeDesc} {k : IntKind} (h : tyd d = .int k) : d = .int k := by cases d <;> simp [tyd] at h; rw [h]
theorem tyd_bool {d : TypeDesc} (h : tyd d = .bool) : d = .bool := by cases d <;> simp [tyd] at h; rfl
theorem bytes_run {S D E : Ti} {src dst e : Nat} (hS : ti P src = some S) (hD : ti P dst = some D) (hE : ti P e = some E) (h1 : S.d = .slice e) (h2 : D.d = .str) (h3 : E.d = .int .u8) {imp : Nat → Prop} {u : Value} {xs : List (List Dat)} (hr : Rd w imp u (.sl 1 xs))
    (hb : ∀ r ∈ xs, r = [.v (.int .u8 (byteOf r))]) : (convert src dst u).run P w = .ok (.string (strOfNums (xs.map byteOf))) w := by
  obtain ⟨d1, a1, a2⟩ := tyd_inv hS
  obtain ⟨d2, b1, b2⟩ := tyd_inv hD
  obtain ⟨d3, c1, c2⟩ := tyd_inv hE
  have e1 := tyd_slice (a2.trans h1)
  have e2 := tyd_str (b2.trans h2)
  have e3 := tyd_int (c2.trans h3)
  subst e1 e2 e3
  cases hr with
  | nil => rw [run_convert_bytes_nil w src e a1 c1 0 0 dst b1]; rfl
  | @sl a len cap _ _ vs hs hl hc hi hz hw hr =>
    subst hl
    by_cases hne : xs = []
    · subst hne
      rw [run_convert_bytes_string w src dst e (some a) _ cap a1 c1 b1, run_bytesToString w a _ cap [] (by simp [loadCells, loadCellsFrom])]
      rfl
    replace hs := hs hne
    obtain ⟨b, off, s⟩ := a
    simp only at hs
    subst hs
    refine run_convert_bytes_arg w src e a1 c1 b off xs.length cap (xs.map byteOf) (by simp) (fun i hi => ?_) dst b1
    have hr1 := get_getD [] hi
    have hrow := hb _ (List.mem_of_getElem? hr1)
    have hx : (xs.getD i [])[0]? = some (.v (.int .u8 (byteOf (xs.getD i [])))) := by rw [hrow]; rfl
    have g1 := hw i 0 _ _ hr1 hx
    have g2 := hr i 0 _ _ hr1 hx
    generalize vs i 0 = q at g1 g2
    cases g2
    rw [addr_eta _ rfl] at g1
    simp only [Nat.mul_one, Nat.add_zero] at g1
    rw [g1]
    have : (xs.map byteOf).getD i 0 = byteOf (xs.getD i []) := by simp [hi]
    rw [this]
theorem cell_freeze (w : World) (a b : Addr) (n : Nat) : (w.freeze a n).cell? b = w.cell? b := by
  unfold World.freeze
  split
  · rfl
  · simp only [World.cell?, Array.getElem?_modify]
    by_cases e : a.block = b.block
    · rw [if_pos e]
      cases w.heap[b.block]? with
      | none => rfl
      | some o => cases o <;> rfl
    · rw [if_neg e]
theorem Rd.cells {w w' : World} {im im' : Nat → Prop} (h : ∀ b, im b → im' b) (hc : ∀ a, w'.cell? a = w.cell? a) {u : Value} {x : Dat} (r : Rd w im u x) : Rd w' im' u x := by
  induction r with
  | v h => exact .v h
  | nil sz => exact .nil sz
  | sl vs hs hl hcp hi hz hw _ ih => exact .sl vs hs hl hcp (fun hx => h _ (hi hx)) hz (fun i j r x q1 q2 => by rw [hc]; exact hw i j r x q1 q2) (fun i j r x q1 q2 => ih i j r x q1 q2)
theorem run_convert_mark {src e : Nat} (h1 : P.underlying src = some (.slice e)) (h2 : P.underlying e = some (.int .u8)) {a : Addr} {n cap : Nat} {cs : Array Value} {et : Nat} {fz : Nat × Nat} (hh : w.heap[a.block]? = some (.cells cs et fz)) :
    (convert src src (.slice (some a) n cap)).run P w = .ok (.slice (some a) n cap) (w.freeze ⟨a.block, cs.size, none⟩ 1) := by
  have hsh : w.shape? a.block = some (et, cs.size) := by simp [World.shape?, hh]
  simp [convert, run_underlying h1, run_underlying h2, markStringish, hsh]
theorem freeze_same (w : World) (a : Addr) (n : Nat) : (w.freeze a n).os = w.os ∧ (w.freeze a n).tape = w.tape ∧ (w.freeze a n).output = w.output ∧ (w.freeze a n).heap.size = w.heap.size ∧ ∀ k, k ≠ a.block → (w.freeze a n).heap[k]? = w.heap[k]? := by
  unfold World.freeze
  split
  · exact ⟨rfl, rfl, rfl, rfl, fun _ _ => rfl⟩
  · refine ⟨rfl, rfl, rfl, by simp, fun k hk => ?_⟩
    simp only [Array.getElem?_modify]
    rw [if_neg (fun e => hk e.symm)]
theorem effConv_ok (I : Inv C m w hp) {src dst : Nat} {x : AV} {u : Value} {e : Eff} (he : effConv P hp.get src dst x = some e) (hs : e.sc) (hx : Val w (im C m w hp) m u x) : Ok C m w hp d e ((convert src dst u).run P w) := by
  unfold effConv at he
  split at he
  case h_2 => cases he
  rename_i S D hS hD
  obtain ⟨d1, a1, a2⟩ := tyd_inv hS
  obtain ⟨d2, b1, b2⟩ := tyd_inv hD
  split at he
  · rename_i k k' n hd
    cases he
    have e2 := tyd_int (b2.trans hd)
    subst e2
    cases hx with
    | d hx =>
    cases hx
    have : (convert src dst (.int k' n)).run P w = .ok (.int k (k.wrap n)) w := by
      simp only [convert, Sem.run_bind, run_underlying a1, run_underlying b1, Result.andThen_ok]
      cases d1 <;> rfl
    rw [this]
    exact Ok.same I (.d (.v rfl))
  · rename_i k' n hd
    cases he
    have e2 := tyd_str (b2.trans hd)
    subst e2
    cases hx with
    | d hx =>
    cases hx
    have : (convert src dst (.int k' n)).run P w = .ok (.string (Utf8.encode n)) w := by
      simp only [convert, Sem.run_bind, run_underlying a1, run_underlying b1, Result.andThen_ok]
      cases d1 <;> rfl
    rw [this]
    exact Ok.same I (.d (.v rfl))
  · rename_i s hd
    cases he
    have e2 := tyd_str (b2.trans hd)
    subst e2
    cases hx with
    | d hx =>
    cases hx
    have : (convert src dst (.string s)).run P w = .ok (.string s) w := by
      simp only [convert, Sem.run_bind, run_underlying a1, run_underlying b1, Result.andThen_ok]
      cases d1 <;> rfl
    rw [this]
    exact Ok.same I (.d (.v rfl))
  · rename_i e0 s hd
    split at he
    case h_2 => cases he
    rename_i E hE
    split at he
    case h_2 => cases he
    rename_i hEd
    cases he
    have e2 := tyd_slice (b2.trans hd)
    subst e2
    obtain ⟨d3, c1, c2⟩ := tyd_inv hE
    have e3 := tyd_int (c2.trans hEd)
    subst e3
    cases hx with
    | d hx =>
    cases hx
    rw [Lib.run_convert_string_bytes w src dst e0 s a1 b1 c1]
    obtain ⟨I', k⟩ := I.ext (w' := Lib.bytesWorld w e0 s) (by unfold Lib.bytesWorld World.freeze; split <;> rfl) (by unfold Lib.bytesWorld World.freeze; split <;> rfl) (by unfold Lib.bytesWorld World.freeze; split <;> rfl) (by rw [Lib.bytesWorld_size]; omega) (fun k hk => Lib.bytesWorld_at_old w e0 s k hk)
    have hlen : (s.data.toList.map byteRow).length = s.size := by rw [List.length_map, Array.length_toList]; rfl
    have hrow : ∀ (i : Nat) (r : List Dat), (s.data.toList.map byteRow)[i]? = some r → i < s.size ∧ r = [.v (.int .u8 (s.data.toList.getD i 0).toNat)] := fun i r h => by
      have hi : i < s.size := by rw [← hlen]; exact (List.getElem?_eq_some_iff.1 h).1
      rw [List.getElem?_map, get_getD 0 (by rw [Array.length_toList]; exact hi)] at h
      cases h
      exact ⟨hi, rfl⟩
    refine ⟨_, _, m, rfl, fun _ _ => rfl, I', .d (.sl (fun i _ => .int .u8 (s.data.toList.getD i 0).toNat) (fun _ => rfl) hlen.symm (grownCap_ge w s.size 0 e0) (fun _ => ⟨by rw [Lib.bytesWorld_size]; show w.heap.size < _; omega, .inr (.inr I.size), fun o x ho e => ?_⟩) (fun i r h => ?_) (fun i j r x h k => ?_) (fun i j r x h k => ?_)), k⟩
    · have := (I.live o x ho).blk_lt _ e
      exact absurd this (by show ¬ (w.heap.size < _); omega)
    · rw [(hrow i r h).2]; rfl
    · obtain ⟨hi, rfl⟩ := hrow i r h
      cases j with
      | zero => rw [addr_eta _ rfl, Nat.mul_one, Nat.add_zero, Nat.zero_add]; exact Lib.bytesWorld_cell w e0 s i hi
      | succ j => simp at k
    · obtain ⟨hi, rfl⟩ := hrow i r h
      cases j with
      | zero => cases k; exact .v rfl
      | succ j => simp at k
  · rename_i sz xs hd
    split at he
    case h_2 => cases he
    rename_i e0 hSd
    split at he
    case h_2 => cases he
    rename_i E hE
    split at he
    case h_2 => cases he
    rename_i hEd
    split at he
    case isFalse => cases he
    rename_i hsz
    subst hsz
    cases he
    cases hx with
    | d hx =>
    rw [bytes_run hS hD hE hSd hd hEd hx hs]
    exact Ok.same I (.d (.v rfl))
  · rename_i o n hd
    split at he
    case h_2 => cases he
    rename_i e0 e1 sz xs hSd ho
    split at he
    case h_2 => cases he
    rename_i E hE
    split at he
    case h_2 => cases he
    rename_i hEd
    split at he
    case isFalse => cases he
    rename_i hsz
    subst hsz
    cases he
    cases hx with
    | @row _ _ cap a hm =>
    have hsub : ∀ o' obj, Hp.get ((o, none) :: hp) o' = some obj → hp.get o' = some obj := fun o' obj h => by
      rw [Hp.get_cons] at h
      split at h
      · cases h
      · exact h
    have hrd := row_rd I ho hsub (by rw [Hp.get_cons, if_pos rfl])
    rw [hm] at hrd
    rw [bytes_run hS hD hE hSd hd hEd hrd hs]
    exact Ok.same I (.d (.v rfl))
  · rename_i e0 o n hd
    split at he
    case h_2 => cases he
    rename_i e1 e2 sz r xs E hSd ho hE
    split at he
    case h_2 => cases he
    rename_i hEd
    split at he
    case isFalse => cases he
    rename_i hst
    subst hst
    cases he
    have e2 := tyd_slice (b2.trans hd)
    subst e2
    obtain ⟨d3, c1, c2⟩ := tyd_inv hE
    have e3 := tyd_int (c2.trans hEd)
    subst e3
    cases hx with
    | @row _ _ cap a hm =>
    have hsub : ∀ o' obj, Hp.get ((o, none) :: hp) o' = some obj → hp.get o' = some obj := fun o' obj h => by
      rw [Hp.get_cons] at h
      split at h
      · cases h
      · exact h
    have hrd := row_rd I ho hsub (by rw [Hp.get_cons, if_pos rfl])
    obtain ⟨us, q1, _, _⟩ := I.live o _ ho
    rcases q1.2 with ⟨_, h0⟩ | ⟨g, cap', cur, hv, _, hh, _, _, _, _⟩
    · cases h0
    rw [hm] at hv
    cases hv
    have hg : blk (m o) = some g := by rw [hm]; rfl
    rw [run_convert_mark b1 c1 hh]
    obtain ⟨f1, f2, f3, f4, f5⟩ := freeze_same w ⟨g, cur.size, none⟩ 1
    have hgo := I.own o _ g ho hg
    have hnim : ¬ im C m w hp g := I.not_im ho hg
    have himm : ∀ b, im C m w ((o, none) :: hp) b → im C m (w.freeze ⟨g, cur.size, none⟩ 1) ((o, none) :: hp) b := fun b h => ⟨by rw [f4]; exact h.1, h.2⟩
    have hk : ∀ b, im C m w hp b → im C m (w.freeze ⟨g, cur.size, none⟩ 1) ((o, none) :: hp) b ∧ (w.freeze ⟨g, cur.size, none⟩ 1).heap[b]? = w.heap[b]? := fun b h =>
      ⟨himm b ((I.drop hsub).2 b h).1, f5 b (fun e => hnim ((show b = g from e) ▸ h))⟩
    refine ⟨_, _, m, rfl, fun _ _ => rfl, ⟨f1.trans I.os, f2.trans I.tape, f3.trans I.output, by rw [f4]; exact I.size, fun b h1 h2 => ?_, fun o' x ho' => ?_, fun o1 o2 x1 x2 b h1 h2 => I.sep o1 o2 x1 x2 b (hsub _ _ h1) (hsub _ _ h2), fun o' x b ho' => I.own o' x b (hsub _ _ ho')⟩, ?_, hk⟩
    · rw [f5 b (fun e => by
        have e : b = g := e
        rcases hgo with h | h
        · exact h2 (e ▸ h)
        · omega)]
      exact I.frame b h1 h2
    · replace ho' : Hp.get ((o, none) :: hp) o' = some x := ho'
      have hne : o ≠ o' := fun q => by subst q; rw [Hp.get_cons, if_pos rfl] at ho'; cases ho'
      exact (I.live o' x (hsub o' x ho')).mono hk (fun b hb => f5 b fun e => by
        have e : b = g := e
        exact I.sep o o' _ x g ho (hsub o' x ho') hne hg (e ▸ hb)) rfl (fun _ _ => rfl)
    · rw [hm] at hrd
      exact .d (hrd.cells himm fun a => cell_freeze w _ a 1)
  · cases he
theorem guard_int (op : BinOp) (t : Nat) (x y : Operand) (k k' : IntKind) (a b : Int) : (eqGuard op t x y (.int k a) (.int k' b)).run P w = .ok () w := by cases op <;> simp [eqGuard]
theorem guard_str (op : BinOp) (t : Nat) (x y : Operand) (a b : ByteArray) : (eqGuard op t x y (.string a) (.string b)).run P w = .ok () w := by cases op <;> simp [eqGuard]
theorem guard_bool (op : BinOp) (t : Nat) (x y : Operand) (a b : Bool) : (eqGuard op t x y (.bool a) (.bool b)).run P w = .ok () w := by cases op <;> simp [eqGuard]
theorem nil_eq {t e : Nat} {a : Option Addr} {n c n' c' : Nat} (h : P.underlying t = some (.slice e)) (ox oy : Operand) :
    (do eqGuard .eql t ox oy (.slice a n c) (.slice none n' c'); binOp .eql t (.slice a n c) (.slice none n' c') : Sem Value).run P w = .ok (.bool a.isNone) w ∧ (do eqGuard .neq t ox oy (.slice a n c) (.slice none n' c'); binOp .neq t (.slice a n c) (.slice none n' c') : Sem Value).run P w = .ok (.bool (!a.isNone)) w := by
  have he : (Op.equalIn (9999 + 1) t (.slice a n c) (.slice none n' c')).run P w = .ok a.isNone w := by
    generalize 9999 = d
    cases a <;> simp [Op.equalIn, run_underlying h]
  constructor
  · simp only [Sem.run_bind, show (eqGuard .eql t ox oy (.slice a n c) (.slice none n' c')).run P w = .ok () w by simp [eqGuard], Result.andThen_ok, binOp, Op.equal, Op.maxDepth, he, Sem.run_pure]
  · simp only [Sem.run_bind, show (eqGuard .neq t ox oy (.slice a n c) (.slice none n' c')).run P w = .ok () w by simp [eqGuard], Result.andThen_ok, binOp, Op.equal, Op.maxDepth, he, Sem.run_pure]
theorem leaf_ok {imp : Nat → Prop} {t : Nat} {T : Ti} (hT : ti P t = some T) (dep : Nat) {x y : AV} {ux uy : Value} {b : Bool} (h : leafEq T.d x y = some b) (hx : Val w imp m ux x) (hy : Val w imp m uy y) : (Op.equalIn (dep + 1) t ux uy).run P w = .ok b w := by
  obtain ⟨dd, h1, h2⟩ := tyd_inv hT
  unfold leafEq at h
  split at h
  · rename_i hd
    have := tyd_int (h2.trans hd)
    subst this
    split at h
    · rename_i hk
      subst hk
      cases h
      cases hx with
      | d hx =>
      cases hx
      cases hy with
      | d hy =>
      cases hy
      exact run_equalIn_int w dep t _ _ _ _ h1
    · cases h
  · rename_i hd
    have := tyd_bool (h2.trans hd)
    subst this
    cases h
    cases hx with
    | d hx =>
    cases hx
    cases hy with
    | d hy =>
    cases hy
    exact run_equalIn_bool' w dep t _ _ h1
  · rename_i hd
    have := tyd_str (h2.trans hd)
    subst this
    cases h
    cases hx with
    | d hx =>
    cases hx
    cases hy with
    | d hy =>
    cases hy
    exact run_equalIn_string w dep t _ _ h1
  · cases h
theorem fields_ok {imp : Nat → Prop} (dep : Nat) {ux uy : Array Value} {xs ys : List AV} (hnx : ux.size = xs.length) (hny : uy.size = ys.length) (hx : ∀ (i : Nat) (u : Value) (c : AV), ux[i]? = some u → xs[i]? = some c → Val w imp m u c)
    (hy : ∀ (i : Nat) (u : Value) (c : AV), uy[i]? = some u → ys[i]? = some c → Val w imp m u c) : ∀ (fs : List Field) (b : Bool), (∀ f ∈ fs, (f.name != "_") = true) → fieldsEq P xs ys (fs.map fun f => (f.offset, f.type)) = some b → (Op.eqFields (dep + 1) ux uy fs).run P w = .ok b w
  | [], b, _, h => by cases h; simp [Op.eqFields]
  | f :: fs, b, hn, h => by
    simp only [List.map_cons, fieldsEq] at h
    split at h
    case h_2 => cases h
    rename_i T hT
    split at h
    · cases h
    rename_i hagg
    split at h
    case isFalse => cases h
    rename_i ho
    split at h
    case h_2 => cases h
    rename_i a b' h1 h2
    cases h
    have gx : ux[f.offset]? = some (ux.getD f.offset default) := by simp [hnx, ho.1]
    have gy : uy[f.offset]? = some (uy.getD f.offset default) := by simp [hny, ho.2]
    have px : (part f.type ux f.offset).run P w = .ok (ux.getD f.offset default) w := by
      simp only [part, Sem.run_bind, run_isAgg hT, Result.andThen_ok, hagg, Bool.false_eq_true, if_false, gx, Sem.run_pure]
    have py : (part f.type uy f.offset).run P w = .ok (uy.getD f.offset default) w := by
      simp only [part, Sem.run_bind, run_isAgg hT, Result.andThen_ok, hagg, Bool.false_eq_true, if_false, gy, Sem.run_pure]
    have he := leaf_ok hT dep h1 (hx _ _ _ gx (get_getD _ ho.1)) (hy _ _ _ gy (get_getD _ ho.2))
    have hr := fields_ok dep hnx hny hx hy fs b' (fun f hf => hn f (List.mem_cons_of_mem _ hf)) h2
    have hn' : f.name ≠ "_" := by simpa using hn f List.mem_cons_self
    rw [Op.eqFields]
    simp only [if_pos hn', Sem.run_bind, px, py, he, Result.andThen_ok]
    cases a
    · simp
    · simpa using hr
theorem eqAV_ok {imp : Nat → Prop} {t : Nat} {x y : AV} {ux uy : Value} {b : Bool} (h : eqAV P t x y = some b) (hx : Val w imp m ux x) (hy : Val w imp m uy y) (ox oy : Operand) :
    (do eqGuard .eql t ox oy ux uy; binOp .eql t ux uy : Sem Value).run P w = .ok (.bool b) w ∧ (do eqGuard .neq t ox oy ux uy; binOp .neq t ux uy : Sem Value).run P w = .ok (.bool (!b)) w := by
  unfold eqAV at h
  split at h
  case h_2 => cases h
  rename_i T hT
  obtain ⟨dd, h1, h2⟩ := tyd_inv hT
  split at h
  · rename_i fs xs ys hd
    split at h
    case isFalse => cases h
    rename_i hp
    rw [hd] at h2
    cases dd <;> simp [tyd] at h2
    rename_i fields
    subst h2
    cases hx with
    | @agg vx _ hnx hx =>
    cases hy with
    | @agg vy _ hny hy =>
    simp only [plainEq, h1, Bool.and_eq_true, Bool.not_eq_true', Array.all_eq_true_iff_forall_mem] at hp
    obtain ⟨⟨p1, p2⟩, p3⟩ := hp
    have hf : P.fieldsOf t = fields := by simp [Program.fieldsOf, h1]
    have hr := fields_ok (P := P) 9998 hnx hny hx hy fields.toList b (fun f hf => p3 f (by simpa using hf)) h
    have he := run_equalIn_struct (P := P) w 9999 t vx vy (by rw [hf]; exact h1) p2
    rw [hf, hr] at he
    constructor
    · simp only [Sem.run_bind, run_eqGuard_agg w .eql t ox oy _ _ p1, Result.andThen_ok, run_eql_struct, he]
    · simp only [Sem.run_bind, run_eqGuard_agg w .neq t ox oy _ _ p1, Result.andThen_ok, run_neq_struct, he]
  · rename_i a b' hd
    have := tyd_bool (h2.trans hd)
    subst this
    cases h
    cases hx with
    | d hx =>
    cases hx
    cases hy with
    | d hy =>
    cases hy
    have he := run_equalIn_bool' (P := P) w 9999 t a b' h1
    constructor
    · simp only [Sem.run_bind, guard_bool, Result.andThen_ok, binOp, Op.equal, Op.maxDepth, he, Sem.run_pure]
    · simp only [Sem.run_bind, guard_bool, Result.andThen_ok, binOp, Op.equal, Op.maxDepth, he, Sem.run_pure]
  · rename_i e a n c n' c' hd
    have h3 := tyd_slice (h2.trans hd)
    subst h3
    cases h
    cases hx with
    | d hx =>
    cases hx
    cases hy with
    | d hy =>
    cases hy
    exact nil_eq (P := P) h1 ox oy
  · rename_i e sz r rs n' c' hd
    have h3 := tyd_slice (h2.trans hd)
    subst h3
    cases h
    cases hx with
    | d hx =>
    cases hx with
    | @sl a len cap _ _ vs hs hl hc hi hz hw hr =>
    cases hy with
    | d hy =>
    cases hy
    exact nil_eq (P := P) (a := some a) h1 ox oy
  · cases h
theorem effBin_ok (I : Inv C m w hp) {op : BinOp} {t : Nat} {x y : AV} {ux uy : Value} {e : Eff} (he : effBin P op t x y = some e) (hs : e.sc) (hx : Val w (im C m w hp) m ux x) (hy : Val w (im C m w hp) m uy y) (ox oy : Operand) :
    Ok C m w hp d e ((do eqGuard op t ox oy ux uy; binOp op t ux uy : Sem Value).run P w) := by
  unfold effBin at he
  split at he
  · rename_i k a k' b
    cases hx with
    | d hx =>
    cases hx
    cases hy with
    | d hy =>
    cases hy
    simp only [Sem.run_bind, guard_int, Result.andThen_ok]
    cases op
    case shl =>
      cases he
      have hs : ¬ b < 0 := by simp only at hs; omega
      simp only [binOp, Op.shift, if_neg hs, Sem.run_pure]
      exact Ok.same I (.d (.v rfl))
    case shr =>
      cases he
      have hs : ¬ b < 0 := by simp only at hs; omega
      simp only [binOp, Op.shift, if_neg hs, Sem.run_pure]
      exact Ok.same I (.d (.v rfl))
    all_goals
      simp only at he
      split at he
      case isFalse => cases he
      rename_i hk
      subst hk
      cases he
    case quo.isTrue.refl => simp only at hs; simp only [binOp, ne_eq, not_true_eq_false, if_false, Op.intDiv, if_neg hs, Sem.run_pure]; exact Ok.same I (.d (.v rfl))
    case rem.isTrue.refl => simp only at hs; simp only [binOp, ne_eq, not_true_eq_false, if_false, Op.intDiv, if_neg hs, Sem.run_pure]; exact Ok.same I (.d (.v rfl))
    all_goals simp only [binOp, ne_eq, not_true_eq_false, if_false, Op.intArith, intBits_and, intBits_or, intBits_xor, intBits_andNot, Op.intCmp, Sem.run_pure]; exact Ok.same I (.d (.v rfl))
  · rename_i a b
    cases hx with
    | d hx =>
    cases hx
    cases hy with
    | d hy =>
    cases hy
    simp only [Sem.run_bind, guard_str, Result.andThen_ok]
    cases op <;> simp only at he <;> first | cases he | skip
    case add.refl =>
      have hs' : ¬ (((a.size + b.size : Nat) : Int) > IntKind.i64.max) := by
        have : IntKind.i64.max = 9223372036854775807 := by rfl
        rw [this]; simp only at hs; omega
      simp only [binOp, Op.stringOp, if_neg hs', Sem.run_pure]
      exact Ok.same I (.d (.v rfl))
    all_goals simp only [binOp, Op.stringOp, Sem.run_pure]; exact Ok.same I (.d (.v rfl))
  · split at he
    · rename_i b hb
      cases he
      rw [(eqAV_ok hb hx hy ox oy).1]
      exact Ok.same I (.d (.v rfl))
    · rename_i b hb
      cases he
      rw [(eqAV_ok hb hx hy ox oy).2]
      exact Ok.same I (.d (.v rfl))
    · cases he
theorem effBinC_ok (I : Inv C m w hp) {op : BinOp} {t : Nat} {x y : AV} {ux uy : Value} {e : Eff} {ox oy : Operand} (he : effBinC P op t (isConst oy) x y = some e) (hs : e.sc) (hx : Val w (im C m w hp) m ux x) (hy : Val w (im C m w hp) m uy y) :
    Ok C m w hp d e ((do eqGuard op t ox oy ux uy; binOp op t ux uy : Sem Value).run P w) := by
  unfold effBinC at he
  split at he
  · exact effBin_ok I he hs hx hy ox oy
  · exact effBin_ok I he hs hx hy ox oy
  · exact effBin_ok I he hs hx hy ox oy
  · exact effBin_ok I he hs hx hy ox oy
  · exact effBin_ok I he hs hx hy ox oy
  · split at he
    case h_2 => cases he
    split at he
    case isFalse => cases he
    rename_i hc
    split at he
    case isFalse => cases he
    rename_i hi
    unfold isIface at hi
    split at hi
    case h_2 => cases hi
    rename_i ms hu
    cases hx with
    | d hx =>
    cases hx
    cases hy with
    | d hy =>
    cases hy
    cases oy with
    | const v =>
      have he0 : ∀ n, (Op.equalIn (n + 1) t .nilIface .nilIface).run P w = .ok true w := fun n => by
        simp only [Op.equalIn, Sem.run_bind, run_underlying hu, Result.andThen_ok, Sem.run_pure]
      have he1 : (Op.equal t .nilIface .nilIface).run P w = .ok true w := he0 9999
      split at he
      · cases he
        rw [eqGuard_nil_constR]
        simp only [Sem.run_bind, Sem.run_pure, Result.andThen_ok, binOp, he1]
        exact Ok.same I (.d (.v rfl))
      · cases he
        rw [eqGuard_nil_constR]
        simp only [Sem.run_bind, Sem.run_pure, Result.andThen_ok, binOp, he1]
        exact Ok.same I (.d (.v rfl))
      · cases he
    | _ => cases hc
  · exact effBin_ok I he hs hx hy ox oy
end
end Go.Proofs.Ytlhhibhcoefolaa.Eng
