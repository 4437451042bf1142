/- The tokens of JSON, in plain Lean: which token begins a text, and which tokens a text has. No program stands here. -/
import Derived.Test.YtlhhibhcoefolaaJstrUnits
namespace Go.Proofs.Ytlhhibhcoefolaa.Jlex
open Go.RowKit Go.Proofs.YtlhhibhcoefolaaW.PrintWords Go.Proofs.Ytlhhibhcoefolaa.Base Go.Proofs.Ytlhhibhcoefolaa.Utf Go.Proofs.Ytlhhibhcoefolaa.Jstr

def dig (c : Int) : Bool := decide (48 ≤ c ∧ c ≤ 57)
def hexb (c : Int) : Bool := decide (0 ≤ hexv c)
def blk (c : Int) : Bool := decide (c = 32 ∨ c = 9 ∨ c = 10 ∨ c = 13)
/-- What would go on with a number, or a word. -/
def go (c : Int) : Bool := decide ((97 ≤ c ∧ c ≤ 122) ∨ (65 ≤ c ∧ c ≤ 90) ∨ (48 ≤ c ∧ c ≤ 57) ∨ c = 46 ∨ c = 43 ∨ c = 45 ∨ c = 95)
def goes : List Int → Bool
  | [] => false
  | c :: _ => go c
/-- How many digits begin a text. -/
def dl (l : List Int) : Nat := (l.takeWhile dig).length
/-- The parts of a number, from the last one on: how many bytes. -/
def nE3 (u : List Int) : Option Nat := if dl u = 0 then none else if goes (u.drop (dl u)) = true then none else some (dl u)
def nE2 (u : List Int) : Option Nat :=
  match u with
  | [] => some 0
  | c :: t => if c = 101 ∨ c = 69 then (match t with
    | [] => none
    | s :: t' => if s = 43 ∨ s = 45 then (nE3 t').map (· + 2) else (nE3 (s :: t')).map (· + 1)) else if go c = true then none else some 0
def nE1 (u : List Int) : Option Nat :=
  match u with
  | [] => nE2 []
  | c :: t => if c = 46 then (if dl t = 0 then none else (nE2 (t.drop (dl t))).map (· + (1 + dl t))) else nE2 (c :: t)
def nE0 (u : List Int) : Option Nat :=
  match u with
  | [] => none
  | c :: t => if c = 48 then (nE1 t).map (· + 1) else if dl (c :: t) = 0 then none else (nE1 ((c :: t).drop (dl (c :: t)))).map (· + dl (c :: t))
def numLen (u : List Int) : Option Nat :=
  match u with
  | [] => none
  | c :: t => if c = 45 then (nE0 t).map (· + 1) else nE0 (c :: t)
/-- How many bytes a text has behind its first mark. -/
def textLen : List Int → Option Nat
  | [] => none
  | [c] => if c = 34 then some 1 else none
  | c :: d :: t => if c = 34 then some 1 else if c < 32 then none else if c = 92 then
      (if d = 117 then (match t with
        | p :: q :: r :: s :: t' => if 0 ≤ hexv p ∧ 0 ≤ hexv q ∧ 0 ≤ hexv r ∧ 0 ≤ hexv s then (textLen t').map (· + 6) else none
        | _ => none)
      else if esc d then (textLen t).map (· + 2) else none)
    else (textLen (d :: t)).map (· + 1)
def wordTok (t : List Int) : Int × Option Nat :=
  if t.take 4 = [116, 114, 117, 101] ∧ goes (t.drop 4) = false then (9, some 4)
  else if t.take 5 = [102, 97, 108, 115, 101] ∧ goes (t.drop 5) = false then (10, some 5)
  else if t.take 4 = [110, 117, 108, 108] ∧ goes (t.drop 4) = false then (11, some 4) else (0, none)
def sign (c : Int) : Option Int := if c = 123 then some 1 else if c = 125 then some 2 else if c = 91 then some 3 else if c = 93 then some 4 else if c = 58 then some 5 else if c = 44 then some 6 else none
/-- The token that begins a text: its kind, and how many bytes it has. -/
def tok (l : List Int) : Int × Option Nat :=
  match l with
  | [] => (0, none)
  | c :: t => match sign c with
    | some k => (k, some 1)
    | none => if c = 34 then (7, (textLen t).map (· + 1)) else if c = 45 ∨ dig c = true then (8, numLen (c :: t)) else wordTok (c :: t)
/-- The tokens of a text that begins at a place, up to what is none (and where that is). -/
inductive Toks : List Int → Int → List (Int × Int × Int) → Option Int → Prop
  | nil {b : List Int} {i : Int} : (∀ x ∈ b, blk x = true) → Toks b i [] none
  | bad {b : List Int} {c : Int} {t : List Int} {i : Int} : (∀ x ∈ b, blk x = true) → blk c = false → (tok (c :: t)).2 = none → Toks (b ++ c :: t) i [] (some (i + (b.length : Int)))
  | cons {b : List Int} {c : Int} {t : List Int} {i k : Int} {n : Nat} {ts : List (Int × Int × Int)} {e : Option Int} : (∀ x ∈ b, blk x = true) → blk c = false → tok (c :: t) = (k, some n) → Toks ((c :: t).drop n) (i + (b.length : Int) + (n : Int)) ts e →
      Toks (b ++ c :: t) i ((k, i + (b.length : Int), i + (b.length : Int) + (n : Int)) :: ts) e

theorem dl_le (l : List Int) : dl l ≤ l.length := (List.takeWhile_sublist _).length_le
theorem nE3_le {u : List Int} {n : Nat} (h : nE3 u = some n) : 1 ≤ n ∧ n ≤ u.length := by
  unfold nE3 at h
  have := dl_le u
  split at h
  · simp at h
  · split at h
    · simp at h
    · simp only [Option.some.injEq] at h
      omega
theorem map_some {f : Nat → Nat} {o : Option Nat} {n : Nat} (h : o.map f = some n) : ∃ m, o = some m ∧ n = f m := by
  cases o with
  | none => simp at h
  | some m => exact ⟨m, rfl, by simpa using h.symm⟩
theorem nE2_le {u : List Int} {n : Nat} (h : nE2 u = some n) : n ≤ u.length := by
  unfold nE2 at h
  split at h
  · simp at h; omega
  · split at h
    · split at h
      · simp at h
      · split at h
        · obtain ⟨m, h1, rfl⟩ := map_some h
          have := nE3_le h1
          simp only [List.length_cons]
          omega
        · obtain ⟨m, h1, rfl⟩ := map_some h
          have := nE3_le h1
          simp only [List.length_cons] at this ⊢
          omega
    · split at h
      · simp at h
      · simp at h; omega
theorem nE1_le {u : List Int} {n : Nat} (h : nE1 u = some n) : n ≤ u.length := by
  unfold nE1 at h
  split at h
  · exact nE2_le h
  · rename_i c t
    split at h
    · split at h
      · simp at h
      · obtain ⟨m, h1, rfl⟩ := map_some h
        have h2 := nE2_le h1
        have h3 := dl_le t
        simp only [List.length_drop] at h2
        simp only [List.length_cons]
        omega
    · exact nE2_le h
theorem nE0_le {u : List Int} {n : Nat} (h : nE0 u = some n) : 1 ≤ n ∧ n ≤ u.length := by
  unfold nE0 at h
  split at h
  · simp at h
  · rename_i c t
    split at h
    · obtain ⟨m, h1, rfl⟩ := map_some h
      have h2 := nE1_le h1
      simp only [List.length_cons]
      omega
    · split at h
      · simp at h
      · obtain ⟨m, h1, rfl⟩ := map_some h
        have h2 := nE1_le h1
        have h3 := dl_le (c :: t)
        rw [List.length_drop] at h2
        omega
theorem numLen_le {u : List Int} {n : Nat} (h : numLen u = some n) : 1 ≤ n ∧ n ≤ u.length := by
  unfold numLen at h
  split at h
  · simp at h
  · split at h
    · obtain ⟨m, h1, rfl⟩ := map_some h
      have h2 := nE0_le h1
      simp only [List.length_cons]
      omega
    · exact nE0_le h
theorem textLen_cons (c d : Int) (t : List Int) : textLen (c :: d :: t) = if c = 34 then some 1 else if c < 32 then none else if c = 92 then
      (if d = 117 then (match t with
        | p :: q :: r :: s :: t' => if 0 ≤ hexv p ∧ 0 ≤ hexv q ∧ 0 ≤ hexv r ∧ 0 ≤ hexv s then (textLen t').map (· + 6) else none
        | _ => none)
      else if esc d then (textLen t).map (· + 2) else none)
    else (textLen (d :: t)).map (· + 1) := by
  rw [textLen.eq_def]
/-- Four digits of base 16 begin a text. -/
def hex4 : List Int → Prop
  | p :: q :: r :: s :: _ => 0 ≤ hexv p ∧ 0 ≤ hexv q ∧ 0 ≤ hexv r ∧ 0 ≤ hexv s
  | _ => False
theorem hex4_len {t : List Int} (h : hex4 t) : 4 ≤ t.length := by
  rcases t with _ | ⟨p, _ | ⟨q, _ | ⟨r, _ | ⟨s, t⟩⟩⟩⟩
  · exact h.elim
  · exact h.elim
  · exact h.elim
  · exact h.elim
  · simp
theorem textLen_u (t : List Int) : (hex4 t → textLen (92 :: 117 :: t) = (textLen (t.drop 4)).map (· + 6)) ∧ (¬ hex4 t → textLen (92 :: 117 :: t) = none) := by
  rw [textLen_cons, if_neg (by decide), if_neg (by decide), if_pos rfl, if_pos rfl]
  rcases t with _ | ⟨p, _ | ⟨q, _ | ⟨r, _ | ⟨s, t⟩⟩⟩⟩
  · exact ⟨fun h => h.elim, fun _ => rfl⟩
  · exact ⟨fun h => h.elim, fun _ => rfl⟩
  · exact ⟨fun h => h.elim, fun _ => rfl⟩
  · exact ⟨fun h => h.elim, fun _ => rfl⟩
  · exact ⟨fun h => if_pos h, fun h => if_neg h⟩
theorem textLen_le : ∀ (m : Nat) (u : List Int) {n : Nat}, u.length ≤ m → textLen u = some n → 1 ≤ n ∧ n ≤ u.length := by
  intro m
  induction m with
  | zero =>
    intro u n hm h
    obtain rfl : u = [] := List.length_eq_zero_iff.1 (by omega)
    simp [textLen] at h
  | succ m ih =>
    intro u n hm h
    match u, hm, h with
    | [], _, h => simp [textLen] at h
    | [c], _, h =>
      simp only [textLen] at h
      split at h
      · simp at h; simp; omega
      · simp at h
    | c :: d :: t, hm, h =>
      simp only [List.length_cons] at hm
      rw [textLen_cons] at h
      split at h
      · simp at h; simp; omega
      split at h
      · simp at h
      split at h
      · split at h
        · split at h
          · split at h
            · obtain ⟨k, h1, rfl⟩ := map_some h
              have h2 := ih _ (by simp only [List.length_cons] at hm; omega) h1
              simp only [List.length_cons]
              omega
            · simp at h
          · simp at h
        · split at h
          · obtain ⟨k, h1, rfl⟩ := map_some h
            have h2 := ih _ (by omega) h1
            simp only [List.length_cons]
            omega
          · simp at h
      · obtain ⟨k, h1, rfl⟩ := map_some h
        have h2 := ih _ (by simp only [List.length_cons]; omega) h1
        simp only [List.length_cons] at h2 ⊢
        omega
theorem take_len {t w : List Int} {n : Nat} (h : t.take n = w) (hw : w.length = n) : n ≤ t.length := by
  have := congrArg List.length h
  rw [List.length_take] at this
  omega
theorem wordTok_le {t : List Int} {k : Int} {n : Nat} (h : wordTok t = (k, some n)) : 1 ≤ n ∧ n ≤ t.length := by
  unfold wordTok at h
  split at h
  · rename_i hc
    have := take_len hc.1 rfl
    simp only [Prod.mk.injEq, Option.some.injEq] at h
    omega
  split at h
  · rename_i hc
    have := take_len hc.1 rfl
    simp only [Prod.mk.injEq, Option.some.injEq] at h
    omega
  split at h
  · rename_i hc
    have := take_len hc.1 rfl
    simp only [Prod.mk.injEq, Option.some.injEq] at h
    omega
  · simp at h
/-- A token has one byte at least, and no more than there are. -/
theorem tok_le {l : List Int} {k : Int} {n : Nat} (h : tok l = (k, some n)) : 1 ≤ n ∧ n ≤ l.length := by
  unfold tok at h
  split at h
  · simp at h
  · rename_i c t
    split at h
    · simp only [Prod.mk.injEq, Option.some.injEq] at h
      simp only [List.length_cons]
      omega
    · split at h
      · simp only [Prod.mk.injEq] at h
        obtain ⟨m, h1, rfl⟩ := map_some h.2
        have h2 := textLen_le _ t (Nat.le_refl _) h1
        simp only [List.length_cons]
        omega
      · split at h
        · simp only [Prod.mk.injEq] at h
          exact numLen_le h.2
        · exact wordTok_le h
/-- Each text has its tokens. -/
theorem toks_all : ∀ (m : Nat) (l : List Int) (i : Int), l.length ≤ m → ∃ ts e, Toks l i ts e := by
  intro m
  induction m with
  | zero =>
    intro l i hm
    obtain rfl : l = [] := List.length_eq_zero_iff.1 (by omega)
    exact ⟨[], none, Toks.nil (fun _ h => by simp at h)⟩
  | succ m ih =>
    intro l i hm
    have hs : l = l.takeWhile blk ++ l.dropWhile blk := (List.takeWhile_append_dropWhile).symm
    have hb : ∀ x ∈ l.takeWhile blk, blk x = true := fun x hx => by
      have := List.all_takeWhile (p := blk) (l := l)
      exact (List.all_eq_true.1 this) x hx
    rcases hd : l.dropWhile blk with _ | ⟨c, t⟩
    · rw [hd, List.append_nil] at hs
      rw [hs]
      exact ⟨[], none, Toks.nil hb⟩
    · have hc : blk c = false := by
        have := List.head?_dropWhile_not blk l
        rw [hd] at this
        simpa using this
      rw [hd] at hs
      have hlen := congrArg List.length hs
      simp only [List.length_append, List.length_cons] at hlen
      rcases ht : tok (c :: t) with ⟨k, _ | n⟩
      · refine ⟨[], some (i + ((l.takeWhile blk).length : Int)), ?_⟩
        have := Toks.bad (i := i) hb hc (by rw [ht])
        rw [← hs] at this
        exact this
      · have hn := tok_le ht
        simp only [List.length_cons] at hn
        obtain ⟨ts, e, h⟩ := ih ((c :: t).drop n) (i + ((l.takeWhile blk).length : Int) + (n : Int)) (by rw [List.length_drop, List.length_cons]; omega)
        have := Toks.cons hb hc ht h
        rw [← hs] at this
        exact ⟨_, _, this⟩
/-- The same, to be reckoned out. -/
def toksF : Nat → List Int → Int → Option (List (Int × Int × Int) × Option Int)
  | 0, _, _ => none
  | n + 1, l, i => match l.dropWhile blk with
    | [] => some ([], none)
    | c :: t => match tok (c :: t) with
      | (_, none) => some ([], some (i + ((l.takeWhile blk).length : Int)))
      | (k, some m) => match toksF n ((c :: t).drop m) (i + ((l.takeWhile blk).length : Int) + (m : Int)) with
        | none => none
        | some r => some ((k, i + ((l.takeWhile blk).length : Int), i + ((l.takeWhile blk).length : Int) + (m : Int)) :: r.1, r.2)
theorem toksF_ok : ∀ (n : Nat) (l : List Int) (i : Int) (ts : List (Int × Int × Int)) (e : Option Int), toksF n l i = some (ts, e) → Toks l i ts e := by
  intro n
  induction n with
  | zero => intro l i ts e h; simp [toksF] at h
  | succ n ih =>
    intro l i ts e h
    have hs : l = l.takeWhile blk ++ l.dropWhile blk := (List.takeWhile_append_dropWhile).symm
    have hb : ∀ x ∈ l.takeWhile blk, blk x = true := fun x hx => by
      have := List.all_takeWhile (p := blk) (l := l)
      exact (List.all_eq_true.1 this) x hx
    rw [toksF] at h
    rcases hd : l.dropWhile blk with _ | ⟨c, t⟩
    · rw [hd] at h hs
      simp only [Option.some.injEq, Prod.mk.injEq] at h
      obtain ⟨rfl, rfl⟩ := h
      rw [List.append_nil] at hs
      rw [hs]
      exact Toks.nil hb
    · have hc : blk c = false := by
        have := List.head?_dropWhile_not blk l
        rw [hd] at this
        simpa using this
      rw [hd] at h hs
      rcases ht : tok (c :: t) with ⟨k, _ | m⟩
      · simp only [ht, Option.some.injEq, Prod.mk.injEq] at h
        obtain ⟨rfl, rfl⟩ := h
        have := Toks.bad (i := i) hb hc (by rw [ht])
        rw [← hs] at this
        exact this
      · simp only [ht] at h
        rcases hr : toksF n ((c :: t).drop m) (i + ((l.takeWhile blk).length : Int) + (m : Int)) with _ | ⟨ts', e'⟩
        · rw [hr] at h
          simp at h
        · rw [hr] at h
          simp only [Option.some.injEq, Prod.mk.injEq] at h
          obtain ⟨rfl, rfl⟩ := h
          have := Toks.cons hb hc ht (ih _ _ _ _ hr)
          rw [← hs] at this
          exact this
/-- Where what is wrong is. -/
theorem toks_bad {l : List Int} {i : Int} {ts : List (Int × Int × Int)} {e : Option Int} (h : Toks l i ts e) : ∀ p, e = some p → i ≤ p ∧ p ≤ i + (l.length : Int) := by
  induction h with
  | nil => intro p hp; simp at hp
  | @bad b c t i hb hc ht =>
    intro p hp
    simp only [Option.some.injEq] at hp
    subst hp
    simp only [List.length_append, List.length_cons]
    omega
  | @cons b c t i k n ts e hb hc ht hrest ih =>
    intro p hp
    have h1 := ih p hp
    have h2 := tok_le ht
    rw [List.length_drop] at h1
    simp only [List.length_append]
    omega
theorem toks_bytes_unique {l : List Int} {i : Int} {ts ts' : List (Int × Int × Int)} {e e' : Option Int} (h : Toks l i ts e) : Toks l i ts' e' → ts = ts' ∧ e = e' := by
  have sp : ∀ {b b' : List Int} {c c' : Int} {t t' : List Int}, (∀ x ∈ b, blk x = true) → (∀ x ∈ b', blk x = true) → blk c = false → blk c' = false → b ++ c :: t = b' ++ c' :: t' → b = b' ∧ c = c' ∧ t = t' := by
    intro b
    induction b with
    | nil =>
      intro b' c c' t t' _ h2 h3 _ he
      cases b' with
      | nil => simpa using he
      | cons x y =>
        simp only [List.nil_append, List.cons_append, List.cons.injEq] at he
        have := h2 x (by simp)
        rw [← he.1, h3] at this
        exact absurd this (by decide)
    | cons x b ihb =>
      intro b' c c' t t' h1 h2 h3 h4 he
      cases b' with
      | nil =>
        simp only [List.nil_append, List.cons_append, List.cons.injEq] at he
        have := h1 x (by simp)
        rw [he.1, h4] at this
        exact absurd this (by decide)
      | cons x' b' =>
        simp only [List.cons_append, List.cons.injEq] at he
        obtain ⟨r1, r2, r3⟩ := ihb (fun z hz => h1 z (by simp [hz])) (fun z hz => h2 z (by simp [hz])) h3 h4 he.2
        exact ⟨by rw [he.1, r1], r2, r3⟩
  have no : ∀ {b b' : List Int} {c : Int} {t : List Int}, (∀ x ∈ b, blk x = true) → blk c = false → b = b' ++ c :: t → False := by
    intro b b' c t h1 h2 he
    have := h1 c (by rw [he]; simp)
    rw [h2] at this
    exact absurd this (by decide)
  induction h generalizing ts' e' with
  | @nil b i hb =>
    intro h'
    generalize hq : b = q at h'
    cases h' with
    | nil => exact ⟨rfl, rfl⟩
    | bad hb' hc' ht' => exact (no hb hc' hq).elim
    | cons hb' hc' ht' hr' => exact (no hb hc' hq).elim
  | @bad b c t i hb hc ht =>
    intro h'
    generalize hq : b ++ c :: t = q at h'
    cases h' with
    | nil hb' => exact (no hb' hc hq.symm).elim
    | bad hb' hc' ht' =>
      obtain ⟨rfl, rfl, rfl⟩ := sp hb hb' hc hc' hq
      exact ⟨rfl, rfl⟩
    | cons hb' hc' ht' hr' =>
      obtain ⟨rfl, rfl, rfl⟩ := sp hb hb' hc hc' hq
      rw [ht'] at ht
      exact absurd ht (by simp)
  | @cons b c t i k n ts e hb hc ht hrest ih =>
    intro h'
    generalize hq : b ++ c :: t = q at h'
    cases h' with
    | nil hb' => exact (no hb' hc hq.symm).elim
    | bad hb' hc' ht' =>
      obtain ⟨rfl, rfl, rfl⟩ := sp hb hb' hc hc' hq
      rw [ht] at ht'
      exact absurd ht' (by simp)
    | cons hb' hc' ht' hr' =>
      obtain ⟨rfl, rfl, rfl⟩ := sp hb hb' hc hc' hq
      rw [ht] at ht'
      simp only [Prod.mk.injEq, Option.some.injEq] at ht'
      obtain ⟨rfl, rfl⟩ := ht'
      obtain ⟨rfl, rfl⟩ := ih hr'
      exact ⟨rfl, rfl⟩
end Go.Proofs.Ytlhhibhcoefolaa.Jlex
