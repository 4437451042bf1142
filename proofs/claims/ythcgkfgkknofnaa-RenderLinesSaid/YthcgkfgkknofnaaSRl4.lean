/- RenderHard, RenderFits and RenderLines. -/
import Derived.Test.YthcgkfgkknofnaaSRl3
namespace Go.Proofs.Ythcgkfgkknofnaa.Eng
open Go Go.Proofs.Ythcgkfgkknofnaa.Base
set_option maxRecDepth 100000
set_option linter.unusedSimpArgs false
set_option linter.unusedVariables false
/- Documents as they are built: no kids is a nil slice. -/
mutual
def docN : Doc → List Dat
  | .mk k f t l => [.v (.int .i64 k), .v (.int .i64 f), .v (.string t), match l with | [] => .v (.slice none 0 0) | d :: l => .sl 4 (docN d :: docNs l)]
def docNs : List Doc → List (List Dat)
  | [] => []
  | d :: l => docN d :: docNs l
end
mutual
theorem nn_doc : ∀ (d : Doc), nnC (fun _ => 4) 0 (docN d) = docD d
  | .mk k f t [] => by
    rw [docN, docD_eq]
    simp only [nnC, nn, Doc.k, Doc.f, Doc.t, Doc.kids, List.map_nil]
  | .mk k f t (d :: l) => by
    have h1 := nn_doc d
    have h2 := nn_docs l
    rw [docN, docD_eq]
    simp only [nnC, nn, nnR, Doc.k, Doc.f, Doc.t, Doc.kids, List.map_cons, h1, h2]
theorem nn_docs : ∀ (l : List Doc), nnR (fun _ => 4) (docNs l) = l.map docD
  | [] => rfl
  | d :: l => by
    have h1 := nn_doc d
    have h2 := nn_docs l
    rw [docNs, nnR, h1, h2, List.map_cons]
end
theorem docNs_app (a b : List Doc) : docNs (a ++ b) = docNs a ++ docNs b := by
  induction a with
  | nil => rfl
  | cons d a ih => rw [List.cons_append, docNs, ih, docNs, List.cons_append]
theorem docNs_len (a : List Doc) : (docNs a).length = a.length := by
  induction a with
  | nil => rfl
  | cons d a ih => rw [docNs, List.length_cons, ih, List.length_cons]
/- Rows of leaves: each is what it is. -/
def lf (i lv : Int) (fl : Bool) (d : Doc) : List Pc := if d.k = 1 then (if d.t.size = 0 then [] else [(d.t, d.f)]) else if fl = true then (if d.k = 2 then [(⟨#[32]⟩, -1)] else []) else [(lineT (lv * i), -1)]
theorem layR_leaf (w i lv : Int) (d : Doc) (r : List It) (col : Int) (h : 1 ≤ d.k ∧ d.k ≤ 4) : ∃ col', layR w i (⟨d, lv, false⟩ :: r) col = lf i lv false d ++ layR w i r col' := by
  refine ⟨(stepR w i ⟨d, lv, false⟩ r col).2.1, ?_⟩
  rw [layR_cons]
  unfold stepR lf
  simp only []
  by_cases k1 : d.k = 1
  · simp only [if_pos k1]
    split <;> rfl
  · simp only [if_neg k1, if_pos (show d.k = 2 ∨ d.k = 3 ∨ d.k = 4 by omega), Bool.false_eq_true, if_false]
theorem layR_leaves (w i lv : Int) : ∀ (l : List Doc) (col : Int), (∀ d ∈ l, 1 ≤ d.k ∧ d.k ≤ 4) → layR w i (l.map fun d => ⟨d, lv, false⟩) col = l.flatMap (lf i lv false)
  | [], _, _ => rfl
  | d :: l, col, h => by
    obtain ⟨c, e⟩ := layR_leaf w i lv d (l.map fun d => ⟨d, lv, false⟩) col (h d List.mem_cons_self)
    rw [List.map_cons, e, layR_leaves w i lv l c (fun x hx => h x (List.mem_cons_of_mem _ hx)), List.flatMap_cons]
theorem and7 (n : Int) : bits .and .i64 n 7 = n % 8 := by
  have h7 : (BitVec.ofInt 64 7).toNat = 2 ^ 3 - 1 := by decide
  have key : (BitVec.ofInt 64 n &&& BitVec.ofInt 64 7).toNat = (n % ((2 ^ 64 : Nat) : Int)).toNat % 2 ^ 3 := by
    rw [BitVec.toNat_and, BitVec.toNat_ofInt, h7, Nat.and_two_pow_sub_one_eq_mod]
  show IntKind.i64.wrap ((BitVec.ofInt 64 n &&& BitVec.ofInt 64 7).toNat : Nat) = n % 8
  rw [key, IntKind.wrap_i64]
  omega
/-- So many letters. -/
def reps (c : UInt8) (n : Nat) : ByteArray := ⟨(List.replicate n c).toArray⟩
noncomputable def G11e : Gam := ((Gam.none.add 10 fun a => F_alive11 (NT.nz.nzL [] a)).add 12 fun a => F_Pieces (NT.nz.nzL [.a [.k, .k, .k, .r fun _ => 4], .k, .k] a)).add 16 fun a => F_PText (NT.nz.nzL [.s 2] a)
theorem known11e : Known Try.prog G11e := (((Known.none _).addC _ alive11_c).addC _ Pieces_calm).addC _ PText_calm
theorem G11e_at : (∀ h d a, G11e 10 h d a = calmE (fun a => F_alive11 (NT.nz.nzL [] a)) h a) ∧ (∀ h d a, G11e 12 h d a = calmE (fun a => F_Pieces (NT.nz.nzL [.a [.k, .k, .k, .r fun _ => 4], .k, .k] a)) h a) ∧ (∀ h d a, G11e 16 h d a = calmE (fun a => F_PText (NT.nz.nzL [.s 2] a)) h a) := ⟨fun _ _ _ => rfl, fun _ _ _ => rfl, fun _ _ _ => rfl⟩
/- RenderFits. -/
def tw (c : UInt8) (w : Int) : ByteArray := reps c (1 + w % 8).toNat
def inF (k : Int) : Nat → List Int → List Doc
  | _, [] => []
  | j, w :: l => (if j = 0 then [] else [.mk k 0 ByteArray.empty []]) ++ .mk 1 (j : Int) (tw 120 w) [] :: inF k (j + 1) l
def flF (gap : List UInt8) : Nat → List Int → List UInt8
  | _, [] => []
  | j, w :: l => (if j = 0 then [] else gap) ++ (tw 120 w).data.toList ++ flF gap (j + 1) l
theorem inF_snoc (k : Int) : ∀ (l : List Int) (j : Nat) (w : Int), inF k j (l ++ [w]) = inF k j l ++ ((if j + l.length = 0 then [] else [.mk k 0 ByteArray.empty []]) ++ [.mk 1 ((j + l.length : Nat) : Int) (tw 120 w) []])
  | [], j, w => by simp [inF]
  | x :: l, j, w => by
    rw [List.cons_append, inF, inF_snoc k l (j + 1) w, inF, if_neg (show ¬ j + 1 + l.length = 0 by omega), if_neg (show ¬ j + (x :: l).length = 0 by rw [List.length_cons]; omega), List.length_cons, show j + 1 + l.length = j + (l.length + 1) by omega]
    simp only [List.append_assoc, List.cons_append]
theorem flF_snoc (gap : List UInt8) : ∀ (l : List Int) (j : Nat) (w : Int), flF gap j (l ++ [w]) = flF gap j l ++ ((if j + l.length = 0 then [] else gap) ++ (tw 120 w).data.toList)
  | [], j, w => by simp [flF]
  | x :: l, j, w => by
    rw [List.cons_append, flF, flF_snoc gap l (j + 1) w, flF, if_neg (show ¬ j + 1 + l.length = 0 by omega), if_neg (show ¬ j + (x :: l).length = 0 by rw [List.length_cons]; omega)]
    simp only [List.append_assoc]
theorem ext120 (n : Nat) (h : n ≤ 9) : (⟨#[120, 120, 120, 120, 120, 120, 120, 120, 120]⟩ : ByteArray).extract 0 n = reps 120 n := by
  have key : ∀ n : Fin 10, (⟨#[120, 120, 120, 120, 120, 120, 120, 120, 120]⟩ : ByteArray).extract 0 n.val = reps 120 n.val := by decide +kernel
  exact key ⟨n, by omega⟩
theorem ext32 (n : Nat) (h : n ≤ 16) : (⟨#[32, 32, 32, 32, 32, 32, 32, 32, 32, 32, 32, 32, 32, 32, 32, 32]⟩ : ByteArray).extract 0 n = reps 32 n := by
  have key : ∀ n : Fin 17, (⟨#[32, 32, 32, 32, 32, 32, 32, 32, 32, 32, 32, 32, 32, 32, 32, 32]⟩ : ByteArray).extract 0 n.val = reps 32 n.val := by decide +kernel
  exact key ⟨n, by omega⟩
theorem reps_size (c : UInt8) (n : Nat) : (reps c n).size = n := by rw [reps, ba_size, List.length_replicate]
theorem reps_data (c : UInt8) (n : Nat) : (reps c n).data.toList = List.replicate n c := rfl
theorem tw_size (c : UInt8) (w : Int) : 1 ≤ (tw c w).size ∧ (tw c w).size ≤ 8 := by rw [tw, reps_size]; omega
/-- A text of ASCII is as wide as it is long. -/
theorem wide_puts : ∀ (l : List Int) (n : Nat), (puts l).length ≤ n → (alls n (puts l)).length = l.length
  | [], n, _ => by rw [show puts [] = [] from rfl, alls_nil]
  | r :: l, n, h => by
    have h1 := Utf.put_length r
    have h2 := Utf.put_size r
    have e : puts (r :: l) = Utf.put r ++ puts l := rfl
    rw [e, List.length_append] at h
    rw [e]
    obtain ⟨m, rfl⟩ : ∃ m, n = m + 1 := ⟨n - 1, by omega⟩
    rw [alls, if_neg (fun q => by rw [List.append_eq_nil_iff] at q; have := congrArg List.length q.1; simp only [List.length_nil] at this; omega), Utf.dec_put]
    simp only [List.length_cons]
    rw [show (Utf.size (Utf.fix r)).toNat = (Utf.put r).length by omega, List.drop_left, wide_puts l m (by omega)]
theorem put_ascii {r : Int} (h0 : 0 ≤ r) (h : r < 128) : Utf.put r = [r] := by
  have hc : Utf.isCp r := by unfold Utf.isCp; omega
  have : Utf.put r = Utf.enc (if Utf.isCp r then r else 65533) := rfl
  rw [this, if_pos hc, ← bytes1 hc h]
  congr 1; omega
theorem wide_ascii (l : List UInt8) (h : ∀ c ∈ l, c.toNat < 128) : wide ⟨l.toArray⟩ = l.length := by
  have e : sB ⟨l.toArray⟩ = puts (l.map fun c => (c.toNat : Int)) := by
    rw [sB]
    show l.map _ = _
    induction l with
    | nil => rfl
    | cons c l ih =>
      have ih := ih (fun x hx => h x (List.mem_cons_of_mem _ hx))
      rw [List.map_cons]
      show _ = Utf.put _ ++ puts _
      rw [← ih, put_ascii (by omega) (by have := h c List.mem_cons_self; omega)]; rfl
  have hl : (puts (l.map fun c => (c.toNat : Int))).length = l.length := by rw [← e, sB, List.length_map]
  rw [wide, e, ba_size, wide_puts _ _ (by omega), List.length_map]
theorem flF_len (gap : List UInt8) : ∀ (l : List Int) (j : Nat), (flF gap j l).length ≤ l.length * (gap.length + 8)
  | [], _ => Nat.zero_le _
  | w :: l, j => by
    have h1 := flF_len gap l (j + 1)
    have h2 := tw_size 120 w
    have h3 := size_toList (tw 120 w)
    rw [flF, List.length_append, List.length_append, List.length_cons, Nat.succ_mul]
    split <;> (try simp only [List.length_nil]) <;> omega
theorem flF_ascii (gap : List UInt8) (hg : ∀ c ∈ gap, c.toNat < 128) : ∀ (l : List Int) (j : Nat), ∀ c ∈ flF gap j l, c.toNat < 128
  | [], _, c, h => by cases h
  | w :: l, j, c, h => by
    rw [flF] at h
    rcases List.mem_append.mp h with h | h
    · rcases List.mem_append.mp h with h | h
      · split at h
        · cases h
        · exact hg c h
      · rw [tw, reps_data] at h
        rw [List.eq_of_mem_replicate h]; decide
    · exact flF_ascii gap hg l (j + 1) c h
theorem inF_kinds {k : Int} (hk : k = 2 ∨ k = 3) : ∀ (l : List Int) (j : Nat), ∀ d ∈ inF k j l, 1 ≤ d.k ∧ d.k ≤ 4 ∧ okD d ∧ (∀ n : Int, right n d = true) ∧ d.kids = [] ∧ d.t.size ≤ 8
  | [], _, d, h => by cases h
  | w :: l, j, d, h => by
    rw [inF] at h
    rcases List.mem_append.mp h with h | h
    · split at h
      · cases h
      · rcases List.mem_singleton.mp h with rfl
        refine ⟨by show 1 ≤ k; omega, by show k ≤ 4; omega, ⟨Nat.zero_le _, Nat.zero_le _, trivial⟩, fun n => ?_, rfl, Nat.zero_le _⟩
        rw [right, rightC, if_neg (by omega), if_pos (by omega), em0]; rfl
    · rcases List.mem_cons.mp h with rfl | h
      · have h2 := tw_size 120 w
        refine ⟨by show (1 : Int) ≤ 1; decide, by show (1 : Int) ≤ 4; decide, ⟨by show (tw 120 w).size ≤ maxLen; exact Nat.le_trans h2.2 (by decide), Nat.zero_le _, trivial⟩, fun n => ?_, rfl, h2.2⟩
        rw [right, rightC, if_pos rfl]; rfl
      · exact inF_kinds hk l (j + 1) d h
theorem inF_len (k : Int) : ∀ (l : List Int) (j : Nat), (inF k j l).length ≤ 2 * l.length
  | [], _ => Nat.zero_le _
  | w :: l, j => by
    have := inF_len k l (j + 1)
    rw [inF, List.length_append, List.length_cons, List.length_cons]
    split <;> simp only [List.length_nil, List.length_cons] <;> omega
theorem rights_of {a : Int} : ∀ {l : List Doc}, (∀ d ∈ l, right a d = true) → rights a l = true
  | [], _ => rfl
  | d :: l, h => by rw [rights, h d List.mem_cons_self, rights_of fun x hx => h x (List.mem_cons_of_mem _ hx)]; rfl
theorem tots_of {m : Nat} : ∀ {l : List Doc}, (∀ d ∈ l, tot d ≤ m) → tots l ≤ l.length * m
  | [], _ => Nat.zero_le _
  | d :: l, h => by
    have h1 := h d List.mem_cons_self
    have h2 := tots_of fun x hx => h x (List.mem_cons_of_mem _ hx)
    rw [tots, List.length_cons, Nat.succ_mul]; omega
theorem okDs_of' : ∀ {l : List Doc}, (∀ x ∈ l, okD x) → okDs l := okDs_of
/-- A group of a nest. -/
def gn (L : List Doc) : Doc := .mk 6 0 ByteArray.empty [.mk 7 0 ByteArray.empty L]
theorem gn_right {L : List Doc} (h : ∀ d ∈ L, ∀ n : Int, right n d = true) : right 200 (gn L) = true := by
  have e : ∀ n : Int, rights n L = true := fun n => rights_of fun d hd => h d hd n
  rw [gn, right, rightC, if_neg (by decide), if_neg (by decide), if_pos (by decide), if_pos ⟨⟨by decide, em0⟩, rfl⟩, rights, rights, Bool.and_true, right, rightC, if_neg (by decide), if_neg (by decide), if_pos (by decide), if_pos ⟨⟨by decide, em0⟩, rfl⟩, e]
theorem gn_ok {L : List Doc} (hl : L.length ≤ 100) (h : ∀ d ∈ L, okD d) : okD (gn L) := by
  have hm : 100 ≤ maxLen := by decide
  exact ⟨Nat.zero_le _, by show 1 ≤ maxLen; decide, ⟨Nat.zero_le _, by show L.length ≤ maxLen; omega, okDs_of h⟩, trivial⟩
theorem gn_tot (L : List Doc) : tot (gn L) = 2 + tots L := by
  have : ByteArray.empty.size = 0 := rfl
  simp only [gn, tot, tots, this]; omega
theorem step_gn (w i : Int) (L : List Doc) : layR w i [⟨gn L, 0, false⟩] 0 = if fitsR w 0 (gn L) [] = true then fps L else layR w i (L.map fun d => ⟨d, 1, false⟩) 0 := by
  have e : stepR w i ⟨gn L, 0, false⟩ [] 0 = ([⟨.mk 7 0 ByteArray.empty L, 0, fitsR w 0 (gn L) []⟩], 0, []) := by
    unfold stepR inI
    simp only [gn, Doc.k, show ¬ (6 : Int) = 1 by decide, show ¬ (6 : Int) = 2 by decide, show ¬ (6 : Int) = 3 by decide, show ¬ (6 : Int) = 4 by decide, show ¬ (6 : Int) = 7 by decide, if_false, if_true, or_self, kidsI, Doc.kids, List.map_cons, List.map_nil, List.append_nil, Bool.false_or]
  rw [layR_cons, e, List.nil_append]
  cases fitsR w 0 (gn L) [] with
  | true =>
    rw [if_pos rfl, layR_flat w i _ _ _ (Nat.le_refl _) (by intro x hx; rw [List.mem_singleton.mp hx])]
    simp only [fpR, List.append_nil, fp_eq, Doc.k, Doc.kids, show ¬ (7 : Int) = 1 by decide, show ¬ (7 : Int) = 2 by decide, show ¬ (7 : Int) = 3 by decide, show ¬ (7 : Int) = 4 by decide, if_false, or_self]
  | false =>
    rw [if_neg (by decide), layR_cons]
    have e2 : stepR w i ⟨.mk 7 0 ByteArray.empty L, 0, false⟩ [] 0 = (L.map fun d => ⟨d, 1, false⟩, 0, []) := by
      unfold stepR inI
      simp only [Doc.k, show ¬ (7 : Int) = 1 by decide, show ¬ (7 : Int) = 2 by decide, show ¬ (7 : Int) = 3 by decide, show ¬ (7 : Int) = 4 by decide, if_false, if_true, or_self, kidsI, Doc.kids, List.append_nil]
      rfl
    rw [e2, List.nil_append]
theorem rfL_app : ∀ (a b : List Doc), (rfL a).2 = true → rfL (a ++ b) = if (rfL b).2 = true then ((rfL a).1 ++ (rfL b).1, true) else ([], false)
  | [], b, _ => by
    rw [List.nil_append, rfL, List.nil_append]
    cases h : (rfL b).2 with
    | true => rw [if_pos rfl, ← h]
    | false =>
      rw [if_neg (by decide)]
      have : ∀ l : List Doc, (rfL l).2 = false → rfL l = ([], false) := by
        intro l
        induction l with
        | nil => intro h; cases h
        | cons d l ih =>
          intro h
          rw [rfL] at h ⊢
          split at h
          · rename_i c
            rw [if_pos c]
            unfold rfJ at h ⊢
            split at h
            · cases h
            · rename_i c2; rw [if_neg c2]
          · rename_i c; rw [if_neg c]
      exact this b h
  | d :: a, b, h => by
    rw [rfL] at h
    split at h
    · rename_i c
      have h2 : (rfL a).2 = true := by
        unfold rfJ at h
        split at h
        · assumption
        · cases h
      rw [List.cons_append, rfL, if_pos c, rfL_app a b h2, rfL, if_pos c]
      unfold rfJ
      rw [if_pos h2]
      split
      · rename_i c3; rw [if_pos rfl, List.append_assoc]
      · rw [if_neg (by decide)]
    · cases h
theorem rfL_inF (k : Int) (gap : List UInt8) (hk : k = 2 ∧ gap = [32] ∨ k = 3 ∧ gap = []) : ∀ (l : List Int) (j : Nat), rfL (inF k j l) = (flF gap j l, true)
  | [], _ => rfl
  | w :: l, j => by
    have ih := rfL_inF k gap hk l (j + 1)
    have e1 : rfL (.mk 1 (j : Int) (tw 120 w) [] :: inF k (j + 1) l) = ((tw 120 w).data.toList ++ flF gap (j + 1) l, true) := by
      rw [rfL, ih, rfS, if_pos rfl]; rfl
    rw [inF, flF]
    split
    · rw [List.nil_append, e1, List.nil_append]
    · rw [List.cons_append, List.nil_append, rfL, e1, rfS]
      rcases hk with ⟨rfl, rfl⟩ | ⟨rfl, rfl⟩
      · simp only [show ¬ (2 : Int) = 1 by decide, if_false, if_true, rfJ, List.append_assoc]
      · simp only [show ¬ (3 : Int) = 1 by decide, show ¬ (3 : Int) = 2 by decide, if_false, if_true, rfJ, List.nil_append]
theorem wholeP_cons (p : Pc) (l : List Pc) : wholeP (p :: l) = p.1.data.toList ++ wholeP l := by simp [wholeP]
theorem lf_inF (k : Int) (i : Int) (hk : k = 2 ∨ k = 3) : ∀ (l : List Int) (j : Nat), wholeP ((inF k j l).flatMap (lf i 1 false)) = flF (lineT i).data.toList j l
  | [], _ => rfl
  | w :: l, j => by
    have ih := lf_inF k i hk l (j + 1)
    have h2 := tw_size 120 w
    have e1 : lf i 1 false (.mk 1 (j : Int) (tw 120 w) []) = [(tw 120 w, (j : Int))] := by
      unfold lf
      rw [if_pos (show (Doc.mk 1 (j : Int) (tw 120 w) []).k = 1 from rfl), if_neg (show ¬ (Doc.mk 1 (j : Int) (tw 120 w) []).t.size = 0 by show ¬ (tw 120 w).size = 0; omega)]; rfl
    have e2 : lf i 1 false (.mk k 0 ByteArray.empty []) = [(lineT i, -1)] := by
      unfold lf
      rw [if_neg (show ¬ (Doc.mk k 0 ByteArray.empty []).k = 1 by show ¬ k = 1; omega), if_neg (by decide), Int.one_mul]
    rw [inF, flF]
    split
    · simp only [List.nil_append, List.flatMap_cons, e1, List.cons_append, wholeP_cons, ih]
    · simp only [List.cons_append, List.nil_append, List.flatMap_cons, e1, e2, wholeP_cons, ih, List.append_assoc]
theorem docsGN (L : List Doc) : docsOf [[.v (.int .i64 7), .v (.int .i64 0), .v (.string ByteArray.empty), .sl 4 (L.map docD)]] = [.mk 7 0 ByteArray.empty L] := by
  have := docsOf_map [.mk 7 0 ByteArray.empty L]
  simpa only [List.map_cons, List.map_nil, docD_eq, Doc.k, Doc.f, Doc.t, Doc.kids] using this
/-- What comes of it. -/
theorem fits_plain (k : Int) (gap : List UInt8) (hk : k = 2 ∧ gap = [32] ∨ k = 3 ∧ gap = []) (ws : List Int) (hws : ws.length ≤ 30) (w i : Int) (hw : 1 ≤ w ∧ w ≤ 200) (hi : 0 ≤ i ∧ i ≤ 16) :
    okD (gn (inF k 0 ws)) ∧ tot (gn (inF k 0 ws)) ≤ 1000000 ∧ (pcs (gn (inF k 0 ws)) w i).length ≤ 1000000000 ∧ totP (pcs (gn (inF k 0 ws)) w i) ≤ 1000000000 ∧
      wholeP (pcs (gn (inF k 0 ws)) w i) = if ((flF gap 0 ws).length : Int) ≤ w then flF gap 0 ws else flF (lineT i).data.toList 0 ws := by
  have hk' : k = 2 ∨ k = 3 := by omega
  have hL := inF_kinds hk' ws 0
  have hlen := inF_len k ws 0
  have ok := gn_ok (L := inF k 0 ws) (by omega) fun d hd => (hL d hd).2.2.1
  have ht : tots (inF k 0 ws) ≤ (inF k 0 ws).length * 9 := tots_of fun d hd => by
    obtain ⟨_, _, _, _, h5, h6⟩ := hL d hd
    rw [tot_eq, h5, tots]; omega
  have hT := gn_tot (inF k 0 ws)
  have hb := pcs_le w i ok 1000 1000 (by have := dsz_tot (gn (inF k 0 ws)); omega) (by omega)
  have hr := gn_right (L := inF k 0 ws) fun d hd => (hL d hd).2.2.2.1
  refine ⟨ok, by omega, by omega, by omega, ?_⟩
  have hmw : mx 1 (mn w 1000) = w := by unfold mx mn; split <;> split <;> omega
  have hmi : mx 0 (mn i 16) = i := by unfold mx mn; split <;> split <;> omega
  rw [pcs, if_pos hr, rnd, hmw, hmi, step_gn]
  have hrf := rfL_inF k gap hk ws 0
  have hrg : rfS (gn (inF k 0 ws)) = (flF gap 0 ws, true) := by
    rw [gn, rfS]
    simp only [show ¬ (6 : Int) = 1 by decide, show ¬ (6 : Int) = 2 by decide, show ¬ (6 : Int) = 3 by decide, show ¬ (6 : Int) = 4 by decide, if_false, rfL, rfS, show ¬ (7 : Int) = 1 by decide, show ¬ (7 : Int) = 2 by decide, show ¬ (7 : Int) = 3 by decide, show ¬ (7 : Int) = 4 by decide, hrf, if_true, rfJ, List.append_nil]
  have hga : ∀ c ∈ gap, c.toNat < 128 := by
    rcases hk with ⟨_, rfl⟩ | ⟨_, rfl⟩
    · intro c hc; rw [List.mem_singleton.mp hc]; decide
    · intro c hc; cases hc
  have hfit : fitsR w 0 (gn (inF k 0 ws)) [] = decide (((flF gap 0 ws).length : Int) ≤ w) := by
    have e0 : fw (gn (inF k 0 ws)) = ((flF gap 0 ws).length : Int) := by
      rw [fw, flatB, hrg]; exact wide_ascii _ (flF_ascii gap hga ws 0)
    rw [fitsR, hrg, Bool.true_and, e0]
    congr 1
    simp only [sumB, eq_iff_iff]; omega
  rw [hfit]
  by_cases c : ((flF gap 0 ws).length : Int) ≤ w
  · rw [if_pos (decide_eq_true c), if_pos c, fps_text _ (by rw [hrf]), hrf]
  · rw [if_neg (by rw [decide_eq_false c]; decide), if_neg c, layR_leaves _ _ _ _ _ (fun d hd => ⟨(hL d hd).1, (hL d hd).2.1⟩), lf_inF k i hk' ws 0]
theorem ba_app' (a : List UInt8) (s : ByteArray) : (⟨a.toArray⟩ : ByteArray) ++ s = ⟨(a ++ s.data.toList).toArray⟩ := by rw [← ba_app, ba_self]
theorem lineT_data (n : Int) : (lineT n).data.toList = 10 :: (blanksB n).data.toList := by
  rw [lineT, show (⟨#[10]⟩ : ByteArray) = ⟨[10].toArray⟩ from rfl, ba_app']; rfl
theorem RenderFits_body (ws : List Int) (w i : Int) (soft : Bool) (h0 : ws.length ≤ maxLen ∧ ∀ x ∈ ws, (Lit.int .i64 x).wf = true) (_ : (Lit.int .i64 w).wf = true) (_ : (Lit.int .i64 i).wf = true) (_ : True) : Body Try.prog G11e (DRun Try.prog G11e) 4 [.d (intsD ws), .d (.v (.int .i64 w)), .d (.v (.int .i64 i)), .d (.v (.bool soft))] (vBool true) := by
  refine Body.of Try.func4 Try.ntmps4 (by kernel_rfl) rfl rfl rfl ?_
  simp only [intsD, G11e_at, calmE, F_alive11, F_Pieces, F_PText, AV.flat, AV.flat.flatL, List.length_map, goTG_val, goTG_new, goTG_up, goTG_none, goG_none, goG_new, goG_up, ne_eq, evK, evH, retHF, DRun_mk, runT_nil, runT_none, runT_guard, goT_val, goT_new, goT_store, goTH_true, goTH_false, evO, keys, Option.toList_some, Option.toList_none, nzL_nil, nzL_cons, nz_k, nz_sl, nz_nil, nz_agg, startL, evC, evV, goE_val, goE_new, goE_store, goH_true, goH_false, goG_val, lk_cons, lk_nil, lk_func, lk_int, lk_bool, lk_string, lk_slice, lk_agg, look_mk, St.effOf, eff, effCall, effBin, effUn, effConv, effPick, effNil, effFold, fold1, effLoad, effStore, effFieldAddr, effField, fieldOf, sliceOf, effIndexAddr, effIndex, effLen, effExtract, effSlice, bnd, effBuild, placesOf, effBuildSlice, effMakeSlice, effAppend, srcOf, fillA, chunk, seg, toD, toDs, put, eqAV, fieldsEq, leafEq, strip, unw, allB, selP_or, selP_and, tis, TyD.agg, AV.cells, AV.cell, allCell, vInt, vBool, vStr, subL_nil, subL_cons, upIds, AV.ids, AV.ids.idsL, AObj.ids, drops, Hp.get_cons, get_nil, retF, resL, one, fz, fz.fzL, List.map_cons, List.map_nil, List.nil_append, List.append_nil, List.cons_append, List.all_cons, List.all_nil, List.length_cons, List.length_nil, List.getElem?_cons_zero, List.getElem?_cons_succ, List.getD_cons_zero, List.getD_cons_succ, List.take_succ_cons, List.take_zero, List.drop_succ_cons, List.drop_zero, List.take_nil, List.drop_nil, List.contains_cons, List.contains_nil, Option.getD_some, Option.getD_none, Option.map_some, Option.map_none, if_true, if_false, true_and, and_true, and_self, or_self, or_false, false_or, false_and, and_false, reduceCtorEq, sel_and, sel_or, decide_eq_true_eq, Bool.and_eq_true, Bool.or_eq_true, Bool.and_true, Bool.true_and, Bool.or_false, Bool.false_or, Bool.true_or, Bool.or_true, Bool.not_true, Bool.not_false, Bool.false_eq_true, implies_true, not_false_eq_true, Nat.reduceLT, Nat.reduceEqDiff, Nat.reduceAdd, Nat.reduceMul, Nat.reduceMod, Nat.reduceLeDiff, Nat.reduceBEq, Nat.zero_add, Nat.add_zero, reduceIte, ↓reduceIte, List.not_mem_nil]
  by_cases c : ((((((ws.length : Int) < 1 ∨ (ws.length : Int) > 30) ∨ w < 1) ∨ w > 200) ∨ i < 0) ∨ i > 16)
  · rw [if_pos c]
    try exact Sub.refl _
  rw [if_neg c]
  have hi : 0 ≤ i ∧ i ≤ 16 := by omega
  have hbl : (blanksB i).size = i.toNat := by rw [blanksB, ba_size, List.length_replicate]
  have hlt : (lineT i).data.toList.length = 1 + i.toNat := by rw [size_toList, lineT, ByteArray.size_append, hbl]; rfl
  have hnl : (⟨#[10]⟩ : ByteArray).size = 1 := rfl
  have hsp : (⟨#[32]⟩ : ByteArray).size = 1 := rfl
  have hem : (⟨#[]⟩ : ByteArray).size = 0 := rfl
  cases soft with
  | false =>
    rw [if_neg (by decide)]
    refine ⟨⟨by decide, by omega, by show i ≤ 16; omega⟩, ?_⟩
    refine wpc_loop (fun j : Nat => ⟨110, [100], [(0, .d (intsD ws)), (1, vInt .i64 w), (2, vInt .i64 i), (10, vInt .i64 2), (11, vStr ⟨#[32]⟩), (12, .row 100 (inF 2 0 (ws.take j)).length), (13, vStr ⟨(flF [32] 0 (ws.take j)).toArray⟩), (14, vStr ⟨(flF (lineT i).data.toList 0 (ws.take j)).toArray⟩), (15, vStr (blanksB i)), (16, vInt .i64 j)], [(100, some (.row 24 4 (docNs (inF 2 0 (ws.take j)))))]⟩) (fun j => j ≤ ws.length) (fun j => ws.length - j) 0 (Nat.zero_le _) ?_ ?_
    · refine Le.of (fun _ => 50) [] ?_
      simp only [intsD, List.take_zero, inF, flF, docNs, List.length_nil, Mt_tup, Mt_agg, Mt_fn, forall_eq, forall_eq_or_imp, ne_eq, List.all_cons, List.all_nil, pr, Nat.reduceLeDiff, slR_nil, slR_cons, hpR_nil, hpR_cells, hpR_row, idsR_nil, idsR_cons, mtE_v, mtE_sl, mtE_nil, mtE_refl, mtE_row, mtE_born, mtE_ptr, mtE_rp, mtE_agg, mtE_tup, mtE_fn, mtE_ep, MtL_nil, MtL_cons, Mt_v, Mt_sl, Mt_nil, Mt_refl, Mt_row, Mt_born, Mt_ptr, MtO_cells, MtO_row, liveIds, distinct, Dat.v.injEq, Dat.sl.injEq, Value.int.injEq, Value.bool.injEq, Value.string.injEq, lk_cons, lk_nil, subL_nil, subL_cons, upIds, AV.ids, AV.ids.idsL, AObj.ids, Hp.get_cons, get_nil, allCell, AV.cell, vInt, vBool, vStr, id, true_and, and_true, and_self, List.append_nil, List.nil_append, List.not_mem_nil, List.mem_cons, or_false, false_or, or_self, not_true_eq_false, not_false_eq_true, false_imp_iff, false_implies, List.map_nil, not_false_eq_true, List.contains_cons, List.contains_nil, Bool.or_false, Bool.false_or, Bool.true_or, Bool.or_true, Bool.and_true, Bool.true_and, implies_true, if_true, if_false, reduceCtorEq, Nat.reduceEqDiff, Nat.reduceBEq, Nat.reduceAdd, reduceIte, ↓reduceIte]
      have hb0 : (⟨#[32, 32, 32, 32, 32, 32, 32, 32, 32, 32, 32, 32, 32, 32, 32, 32]⟩ : ByteArray).extract (Int.toNat 0) i.toNat = blanksB i := by
        rw [show Int.toNat 0 = 0 from rfl, ext32 _ (by omega)]; rfl
      exact ⟨hb0, rfl⟩
    · intro j hj
      by_cases hj2 : (j : Int) < ws.length
      · obtain ⟨x, hx⟩ : ∃ x, ws[j]? = some x := ⟨_, List.getElem?_eq_getElem (by omega)⟩
        have hg : ws.getD (j : Int).toNat 0 = x := getD_at hx
        have hjt : (ws.take j).length = j := by rw [List.length_take]; omega
        have hxt : (⟨#[120, 120, 120, 120, 120, 120, 120, 120, 120]⟩ : ByteArray).extract 0 (1 + x % 8).toNat = tw 120 x := ext120 _ (by omega)
        have htw := tw_size 120 x
        have hf1 := flF_len [32] (ws.take j) 0
        have hf2 := flF_len (lineT i).data.toList (ws.take j) 0
        rw [hjt] at hf1 hf2
        have hf3 : j * ([32].length + 8) ≤ j * 9 := Nat.mul_le_mul_left _ (by decide)
        have hf4 : j * ((lineT i).data.toList.length + 8) ≤ j * 25 := Nat.mul_le_mul_left _ (by omega)
        have hfl := inF_len 2 (ws.take j) 0
        rw [hjt] at hfl
        have s1 := inF_snoc 2 (ws.take j) 0 x
        have s2 := flF_snoc [32] (ws.take j) 0 x
        have s3 := flF_snoc (lineT i).data.toList (ws.take j) 0 x
        rw [hjt, Nat.zero_add, ← take_at hx] at s1 s2 s3
        simp only [intsD, getD_iD, hg, iD, and7, List.length_map, goTG_val, goTG_new, goTG_up, goTG_none, goG_none, goG_new, goG_up, ne_eq, evK, evH, retHF, DRun_mk, runT_nil, runT_none, runT_guard, goT_val, goT_new, goT_store, goTH_true, goTH_false, evO, keys, Option.toList_some, Option.toList_none, nzL_nil, nzL_cons, nz_k, nz_sl, nz_nil, nz_agg, startL, evC, evV, goE_val, goE_new, goE_store, goH_true, goH_false, goG_val, lk_cons, lk_nil, lk_func, lk_int, lk_bool, lk_string, lk_slice, lk_agg, look_mk, St.effOf, eff, effCall, effBin, effUn, effConv, effPick, effNil, effFold, fold1, effLoad, effStore, effFieldAddr, effField, fieldOf, sliceOf, effIndexAddr, effIndex, effLen, effExtract, effSlice, bnd, effBuild, placesOf, effBuildSlice, effMakeSlice, effAppend, srcOf, fillA, chunk, seg, toD, toDs, put, eqAV, fieldsEq, leafEq, strip, unw, allB, selP_or, selP_and, tis, TyD.agg, AV.cells, AV.cell, allCell, vInt, vBool, vStr, subL_nil, subL_cons, upIds, AV.ids, AV.ids.idsL, AObj.ids, drops, Hp.get_cons, get_nil, retF, resL, one, fz, fz.fzL, List.map_cons, List.map_nil, List.nil_append, List.append_nil, List.cons_append, List.all_cons, List.all_nil, List.length_cons, List.length_nil, List.getElem?_cons_zero, List.getElem?_cons_succ, List.getD_cons_zero, List.getD_cons_succ, List.take_succ_cons, List.take_zero, List.drop_succ_cons, List.drop_zero, List.take_nil, List.drop_nil, List.contains_cons, List.contains_nil, Option.getD_some, Option.getD_none, Option.map_some, Option.map_none, if_true, if_false, true_and, and_true, and_self, or_self, or_false, false_or, false_and, and_false, reduceCtorEq, sel_and, sel_or, decide_eq_true_eq, Bool.and_eq_true, Bool.or_eq_true, Bool.and_true, Bool.true_and, Bool.or_false, Bool.false_or, Bool.true_or, Bool.or_true, Bool.not_true, Bool.not_false, Bool.false_eq_true, implies_true, not_false_eq_true, Nat.reduceLT, Nat.reduceEqDiff, Nat.reduceAdd, Nat.reduceMul, Nat.reduceMod, Nat.reduceLeDiff, Nat.reduceBEq, Nat.zero_add, Nat.add_zero, reduceIte, ↓reduceIte, List.not_mem_nil]
        rw [if_pos hj2, w64 (n := 1 + x % 8) (by omega) (by omega), show Int.toNat 0 = 0 from rfl, hxt]
        refine ⟨by omega, ⟨by decide, by omega, by show (1 + x % 8 : Int) ≤ 9; omega⟩, ?_⟩
        by_cases hj3 : (j : Int) > 0
        · rw [if_neg (show ¬ j = 0 by omega)] at s1 s2 s3
          rw [if_pos hj3]
          simp only [ByteArray.size_append, hbl, hnl, hsp, hem, ba_size, docNs_len, List.length_append, List.length_cons, List.length_nil] at *
          refine ⟨by omega, by omega, by omega, by omega, by omega, by omega, by omega, j + 1, by omega, by omega, Le.of (fun _ => 85) [] ?_⟩
          rw [s1, s2, s3]
          simp only [intsD, docNs_app, docNs_len, docNs, docN, List.length_append, List.length_cons, List.length_nil, List.append_assoc, List.cons_append, List.nil_append, Mt_tup, Mt_agg, Mt_fn, forall_eq, forall_eq_or_imp, ne_eq, List.all_cons, List.all_nil, pr, Nat.reduceLeDiff, slR_nil, slR_cons, hpR_nil, hpR_cells, hpR_row, idsR_nil, idsR_cons, mtE_v, mtE_sl, mtE_nil, mtE_refl, mtE_row, mtE_born, mtE_ptr, mtE_rp, mtE_agg, mtE_tup, mtE_fn, mtE_ep, MtL_nil, MtL_cons, Mt_v, Mt_sl, Mt_nil, Mt_refl, Mt_row, Mt_born, Mt_ptr, MtO_cells, MtO_row, liveIds, distinct, Dat.v.injEq, Dat.sl.injEq, Value.int.injEq, Value.bool.injEq, Value.string.injEq, lk_cons, lk_nil, subL_nil, subL_cons, upIds, AV.ids, AV.ids.idsL, AObj.ids, Hp.get_cons, get_nil, allCell, AV.cell, vInt, vBool, vStr, id, true_and, and_true, and_self, List.append_nil, List.nil_append, List.not_mem_nil, List.mem_cons, or_false, false_or, or_self, not_true_eq_false, not_false_eq_true, false_imp_iff, false_implies, List.map_nil, not_false_eq_true, List.contains_cons, List.contains_nil, Bool.or_false, Bool.false_or, Bool.true_or, Bool.or_true, Bool.and_true, Bool.true_and, implies_true, if_true, if_false, reduceCtorEq, Nat.reduceEqDiff, Nat.reduceBEq, Nat.reduceAdd, reduceIte, ↓reduceIte]
          refine ⟨?_, ?_, w64 (by omega) (by omega)⟩
          · simp only [ba_app', List.append_assoc]; rfl
          · simp only [ba_app', lineT_data, List.append_assoc]; rfl
        · rw [if_pos (show j = 0 by omega)] at s1 s2 s3
          rw [if_neg hj3]
          simp only [ByteArray.size_append, hbl, hnl, hsp, hem, ba_size, docNs_len, List.length_append, List.length_cons, List.length_nil] at *
          refine ⟨by omega, by omega, by omega, j + 1, by omega, by omega, Le.of (fun _ => 85) [] ?_⟩
          rw [s1, s2, s3]
          simp only [intsD, docNs_app, docNs_len, docNs, docN, List.length_append, List.length_cons, List.length_nil, List.append_assoc, List.cons_append, List.nil_append, Mt_tup, Mt_agg, Mt_fn, forall_eq, forall_eq_or_imp, ne_eq, List.all_cons, List.all_nil, pr, Nat.reduceLeDiff, slR_nil, slR_cons, hpR_nil, hpR_cells, hpR_row, idsR_nil, idsR_cons, mtE_v, mtE_sl, mtE_nil, mtE_refl, mtE_row, mtE_born, mtE_ptr, mtE_rp, mtE_agg, mtE_tup, mtE_fn, mtE_ep, MtL_nil, MtL_cons, Mt_v, Mt_sl, Mt_nil, Mt_refl, Mt_row, Mt_born, Mt_ptr, MtO_cells, MtO_row, liveIds, distinct, Dat.v.injEq, Dat.sl.injEq, Value.int.injEq, Value.bool.injEq, Value.string.injEq, lk_cons, lk_nil, subL_nil, subL_cons, upIds, AV.ids, AV.ids.idsL, AObj.ids, Hp.get_cons, get_nil, allCell, AV.cell, vInt, vBool, vStr, id, true_and, and_true, and_self, List.append_nil, List.nil_append, List.not_mem_nil, List.mem_cons, or_false, false_or, or_self, not_true_eq_false, not_false_eq_true, false_imp_iff, false_implies, List.map_nil, not_false_eq_true, List.contains_cons, List.contains_nil, Bool.or_false, Bool.false_or, Bool.true_or, Bool.or_true, Bool.and_true, Bool.true_and, implies_true, if_true, if_false, reduceCtorEq, Nat.reduceEqDiff, Nat.reduceBEq, Nat.reduceAdd, reduceIte, ↓reduceIte]
          refine ⟨?_, ?_, w64 (by omega) (by omega)⟩
          · simp only [ba_app', List.append_assoc]
          · simp only [ba_app', List.append_assoc]
      · simp only [intsD, List.length_map, goTG_val, goTG_new, goTG_up, goTG_none, goG_none, goG_new, goG_up, ne_eq, evK, evH, retHF, DRun_mk, runT_nil, runT_none, runT_guard, goT_val, goT_new, goT_store, goTH_true, goTH_false, evO, keys, Option.toList_some, Option.toList_none, nzL_nil, nzL_cons, nz_k, nz_sl, nz_nil, nz_agg, startL, evC, evV, goE_val, goE_new, goE_store, goH_true, goH_false, goG_val, lk_cons, lk_nil, lk_func, lk_int, lk_bool, lk_string, lk_slice, lk_agg, look_mk, St.effOf, eff, effCall, effBin, effUn, effConv, effPick, effNil, effFold, fold1, effLoad, effStore, effFieldAddr, effField, fieldOf, sliceOf, effIndexAddr, effIndex, effLen, effExtract, effSlice, bnd, effBuild, placesOf, effBuildSlice, effMakeSlice, effAppend, srcOf, fillA, chunk, seg, toD, toDs, put, eqAV, fieldsEq, leafEq, strip, unw, allB, selP_or, selP_and, tis, TyD.agg, AV.cells, AV.cell, allCell, vInt, vBool, vStr, subL_nil, subL_cons, upIds, AV.ids, AV.ids.idsL, AObj.ids, drops, Hp.get_cons, get_nil, retF, resL, one, fz, fz.fzL, List.map_cons, List.map_nil, List.nil_append, List.append_nil, List.cons_append, List.all_cons, List.all_nil, List.length_cons, List.length_nil, List.getElem?_cons_zero, List.getElem?_cons_succ, List.getD_cons_zero, List.getD_cons_succ, List.take_succ_cons, List.take_zero, List.drop_succ_cons, List.drop_zero, List.take_nil, List.drop_nil, List.contains_cons, List.contains_nil, Option.getD_some, Option.getD_none, Option.map_some, Option.map_none, if_true, if_false, true_and, and_true, and_self, or_self, or_false, false_or, false_and, and_false, reduceCtorEq, sel_and, sel_or, decide_eq_true_eq, Bool.and_eq_true, Bool.or_eq_true, Bool.and_true, Bool.true_and, Bool.or_false, Bool.false_or, Bool.true_or, Bool.or_true, Bool.not_true, Bool.not_false, Bool.false_eq_true, implies_true, not_false_eq_true, Nat.reduceLT, Nat.reduceEqDiff, Nat.reduceAdd, Nat.reduceMul, Nat.reduceMod, Nat.reduceLeDiff, Nat.reduceBEq, Nat.zero_add, Nat.add_zero, reduceIte, ↓reduceIte, List.not_mem_nil]
        rw [if_neg hj2]
        obtain rfl : j = ws.length := by omega
        rw [List.take_of_length_le (Nat.le_refl _)]
        have hgn : Doc.mk 6 0 ByteArray.empty [Doc.mk 7 0 ByteArray.empty (inF 2 0 ws)] = gn (inF 2 0 ws) := rfl
        simp only [intsD, G11e_at, calmE, F_alive11, F_Pieces, F_PText, nz_r, nz_s2, nnR, nnC, nn, nn_docs, docsGN, pcs_map, pcOf_map, hgn, AV.flat, AV.flat.flatL, List.length_map, goTG_val, goTG_new, goTG_up, goTG_none, goG_none, goG_new, goG_up, ne_eq, evK, evH, retHF, DRun_mk, runT_nil, runT_none, runT_guard, goT_val, goT_new, goT_store, goTH_true, goTH_false, evO, keys, Option.toList_some, Option.toList_none, nzL_nil, nzL_cons, nz_k, nz_sl, nz_nil, nz_agg, startL, evC, evV, goE_val, goE_new, goE_store, goH_true, goH_false, goG_val, lk_cons, lk_nil, lk_func, lk_int, lk_bool, lk_string, lk_slice, lk_agg, look_mk, St.effOf, eff, effCall, effBin, effUn, effConv, effPick, effNil, effFold, fold1, effLoad, effStore, effFieldAddr, effField, fieldOf, sliceOf, effIndexAddr, effIndex, effLen, effExtract, effSlice, bnd, effBuild, placesOf, effBuildSlice, effMakeSlice, effAppend, srcOf, fillA, chunk, seg, toD, toDs, put, eqAV, fieldsEq, leafEq, strip, unw, allB, selP_or, selP_and, tis, TyD.agg, AV.cells, AV.cell, allCell, vInt, vBool, vStr, subL_nil, subL_cons, upIds, AV.ids, AV.ids.idsL, AObj.ids, drops, Hp.get_cons, get_nil, retF, resL, one, fz, fz.fzL, List.map_cons, List.map_nil, List.nil_append, List.append_nil, List.cons_append, List.all_cons, List.all_nil, List.length_cons, List.length_nil, List.getElem?_cons_zero, List.getElem?_cons_succ, List.getD_cons_zero, List.getD_cons_succ, List.take_succ_cons, List.take_zero, List.drop_succ_cons, List.drop_zero, List.take_nil, List.drop_nil, List.contains_cons, List.contains_nil, Option.getD_some, Option.getD_none, Option.map_some, Option.map_none, if_true, if_false, true_and, and_true, and_self, or_self, or_false, false_or, false_and, and_false, reduceCtorEq, sel_and, sel_or, decide_eq_true_eq, Bool.and_eq_true, Bool.or_eq_true, Bool.and_true, Bool.true_and, Bool.or_false, Bool.false_or, Bool.true_or, Bool.or_true, Bool.not_true, Bool.not_false, Bool.false_eq_true, implies_true, not_false_eq_true, Nat.reduceLT, Nat.reduceEqDiff, Nat.reduceAdd, Nat.reduceMul, Nat.reduceMod, Nat.reduceLeDiff, Nat.reduceBEq, Nat.zero_add, Nat.add_zero, reduceIte, ↓reduceIte, List.not_mem_nil]
        obtain ⟨p1, p2, p3, p4, p5⟩ := fits_plain 2 [32] (by simp) ws (by omega) w i (by omega) hi
        refine ⟨⟨by rw [docD_eq]; rfl, p1, p2⟩, ⟨p3, p4⟩, ?_⟩
        rw [p5, ba_size]
        split
        · rw [beq_self_eq_true]
          try exact Sub.refl _
        · rw [beq_self_eq_true]
          try exact Sub.refl _
  | true =>
    rw [if_pos rfl]
    refine ⟨⟨by decide, by omega, by show i ≤ 16; omega⟩, ?_⟩
    refine wpc_loop (fun j : Nat => ⟨110, [100], [(0, .d (intsD ws)), (1, vInt .i64 w), (2, vInt .i64 i), (10, vInt .i64 3), (11, vStr ⟨#[]⟩), (12, .row 100 (inF 3 0 (ws.take j)).length), (13, vStr ⟨(flF [] 0 (ws.take j)).toArray⟩), (14, vStr ⟨(flF (lineT i).data.toList 0 (ws.take j)).toArray⟩), (15, vStr (blanksB i)), (16, vInt .i64 j)], [(100, some (.row 24 4 (docNs (inF 3 0 (ws.take j)))))]⟩) (fun j => j ≤ ws.length) (fun j => ws.length - j) 0 (Nat.zero_le _) ?_ ?_
    · refine Le.of (fun _ => 50) [] ?_
      simp only [intsD, List.take_zero, inF, flF, docNs, List.length_nil, Mt_tup, Mt_agg, Mt_fn, forall_eq, forall_eq_or_imp, ne_eq, List.all_cons, List.all_nil, pr, Nat.reduceLeDiff, slR_nil, slR_cons, hpR_nil, hpR_cells, hpR_row, idsR_nil, idsR_cons, mtE_v, mtE_sl, mtE_nil, mtE_refl, mtE_row, mtE_born, mtE_ptr, mtE_rp, mtE_agg, mtE_tup, mtE_fn, mtE_ep, MtL_nil, MtL_cons, Mt_v, Mt_sl, Mt_nil, Mt_refl, Mt_row, Mt_born, Mt_ptr, MtO_cells, MtO_row, liveIds, distinct, Dat.v.injEq, Dat.sl.injEq, Value.int.injEq, Value.bool.injEq, Value.string.injEq, lk_cons, lk_nil, subL_nil, subL_cons, upIds, AV.ids, AV.ids.idsL, AObj.ids, Hp.get_cons, get_nil, allCell, AV.cell, vInt, vBool, vStr, id, true_and, and_true, and_self, List.append_nil, List.nil_append, List.not_mem_nil, List.mem_cons, or_false, false_or, or_self, not_true_eq_false, not_false_eq_true, false_imp_iff, false_implies, List.map_nil, not_false_eq_true, List.contains_cons, List.contains_nil, Bool.or_false, Bool.false_or, Bool.true_or, Bool.or_true, Bool.and_true, Bool.true_and, implies_true, if_true, if_false, reduceCtorEq, Nat.reduceEqDiff, Nat.reduceBEq, Nat.reduceAdd, reduceIte, ↓reduceIte]
      have hb0 : (⟨#[32, 32, 32, 32, 32, 32, 32, 32, 32, 32, 32, 32, 32, 32, 32, 32]⟩ : ByteArray).extract (Int.toNat 0) i.toNat = blanksB i := by
        rw [show Int.toNat 0 = 0 from rfl, ext32 _ (by omega)]; rfl
      exact ⟨hb0, rfl⟩
    · intro j hj
      by_cases hj2 : (j : Int) < ws.length
      · obtain ⟨x, hx⟩ : ∃ x, ws[j]? = some x := ⟨_, List.getElem?_eq_getElem (by omega)⟩
        have hg : ws.getD (j : Int).toNat 0 = x := getD_at hx
        have hjt : (ws.take j).length = j := by rw [List.length_take]; omega
        have hxt : (⟨#[120, 120, 120, 120, 120, 120, 120, 120, 120]⟩ : ByteArray).extract 0 (1 + x % 8).toNat = tw 120 x := ext120 _ (by omega)
        have htw := tw_size 120 x
        have hf1 := flF_len [] (ws.take j) 0
        have hf2 := flF_len (lineT i).data.toList (ws.take j) 0
        rw [hjt] at hf1 hf2
        have hf3 : j * (([] : List UInt8).length + 8) ≤ j * 9 := Nat.mul_le_mul_left _ (by decide)
        have hf4 : j * ((lineT i).data.toList.length + 8) ≤ j * 25 := Nat.mul_le_mul_left _ (by omega)
        have hfl := inF_len 3 (ws.take j) 0
        rw [hjt] at hfl
        have s1 := inF_snoc 3 (ws.take j) 0 x
        have s2 := flF_snoc [] (ws.take j) 0 x
        have s3 := flF_snoc (lineT i).data.toList (ws.take j) 0 x
        rw [hjt, Nat.zero_add, ← take_at hx] at s1 s2 s3
        simp only [intsD, getD_iD, hg, iD, and7, List.length_map, goTG_val, goTG_new, goTG_up, goTG_none, goG_none, goG_new, goG_up, ne_eq, evK, evH, retHF, DRun_mk, runT_nil, runT_none, runT_guard, goT_val, goT_new, goT_store, goTH_true, goTH_false, evO, keys, Option.toList_some, Option.toList_none, nzL_nil, nzL_cons, nz_k, nz_sl, nz_nil, nz_agg, startL, evC, evV, goE_val, goE_new, goE_store, goH_true, goH_false, goG_val, lk_cons, lk_nil, lk_func, lk_int, lk_bool, lk_string, lk_slice, lk_agg, look_mk, St.effOf, eff, effCall, effBin, effUn, effConv, effPick, effNil, effFold, fold1, effLoad, effStore, effFieldAddr, effField, fieldOf, sliceOf, effIndexAddr, effIndex, effLen, effExtract, effSlice, bnd, effBuild, placesOf, effBuildSlice, effMakeSlice, effAppend, srcOf, fillA, chunk, seg, toD, toDs, put, eqAV, fieldsEq, leafEq, strip, unw, allB, selP_or, selP_and, tis, TyD.agg, AV.cells, AV.cell, allCell, vInt, vBool, vStr, subL_nil, subL_cons, upIds, AV.ids, AV.ids.idsL, AObj.ids, drops, Hp.get_cons, get_nil, retF, resL, one, fz, fz.fzL, List.map_cons, List.map_nil, List.nil_append, List.append_nil, List.cons_append, List.all_cons, List.all_nil, List.length_cons, List.length_nil, List.getElem?_cons_zero, List.getElem?_cons_succ, List.getD_cons_zero, List.getD_cons_succ, List.take_succ_cons, List.take_zero, List.drop_succ_cons, List.drop_zero, List.take_nil, List.drop_nil, List.contains_cons, List.contains_nil, Option.getD_some, Option.getD_none, Option.map_some, Option.map_none, if_true, if_false, true_and, and_true, and_self, or_self, or_false, false_or, false_and, and_false, reduceCtorEq, sel_and, sel_or, decide_eq_true_eq, Bool.and_eq_true, Bool.or_eq_true, Bool.and_true, Bool.true_and, Bool.or_false, Bool.false_or, Bool.true_or, Bool.or_true, Bool.not_true, Bool.not_false, Bool.false_eq_true, implies_true, not_false_eq_true, Nat.reduceLT, Nat.reduceEqDiff, Nat.reduceAdd, Nat.reduceMul, Nat.reduceMod, Nat.reduceLeDiff, Nat.reduceBEq, Nat.zero_add, Nat.add_zero, reduceIte, ↓reduceIte, List.not_mem_nil]
        rw [if_pos hj2, w64 (n := 1 + x % 8) (by omega) (by omega), show Int.toNat 0 = 0 from rfl, hxt]
        refine ⟨by omega, ⟨by decide, by omega, by show (1 + x % 8 : Int) ≤ 9; omega⟩, ?_⟩
        by_cases hj3 : (j : Int) > 0
        · rw [if_neg (show ¬ j = 0 by omega)] at s1 s2 s3
          rw [if_pos hj3]
          simp only [ByteArray.size_append, hbl, hnl, hsp, hem, ba_size, docNs_len, List.length_append, List.length_cons, List.length_nil] at *
          refine ⟨by omega, by omega, by omega, by omega, by omega, by omega, by omega, j + 1, by omega, by omega, Le.of (fun _ => 85) [] ?_⟩
          rw [s1, s2, s3]
          simp only [intsD, docNs_app, docNs_len, docNs, docN, List.length_append, List.length_cons, List.length_nil, List.append_assoc, List.cons_append, List.nil_append, Mt_tup, Mt_agg, Mt_fn, forall_eq, forall_eq_or_imp, ne_eq, List.all_cons, List.all_nil, pr, Nat.reduceLeDiff, slR_nil, slR_cons, hpR_nil, hpR_cells, hpR_row, idsR_nil, idsR_cons, mtE_v, mtE_sl, mtE_nil, mtE_refl, mtE_row, mtE_born, mtE_ptr, mtE_rp, mtE_agg, mtE_tup, mtE_fn, mtE_ep, MtL_nil, MtL_cons, Mt_v, Mt_sl, Mt_nil, Mt_refl, Mt_row, Mt_born, Mt_ptr, MtO_cells, MtO_row, liveIds, distinct, Dat.v.injEq, Dat.sl.injEq, Value.int.injEq, Value.bool.injEq, Value.string.injEq, lk_cons, lk_nil, subL_nil, subL_cons, upIds, AV.ids, AV.ids.idsL, AObj.ids, Hp.get_cons, get_nil, allCell, AV.cell, vInt, vBool, vStr, id, true_and, and_true, and_self, List.append_nil, List.nil_append, List.not_mem_nil, List.mem_cons, or_false, false_or, or_self, not_true_eq_false, not_false_eq_true, false_imp_iff, false_implies, List.map_nil, not_false_eq_true, List.contains_cons, List.contains_nil, Bool.or_false, Bool.false_or, Bool.true_or, Bool.or_true, Bool.and_true, Bool.true_and, implies_true, if_true, if_false, reduceCtorEq, Nat.reduceEqDiff, Nat.reduceBEq, Nat.reduceAdd, reduceIte, ↓reduceIte]
          refine ⟨?_, ?_, w64 (by omega) (by omega)⟩
          · simp only [ba_app', List.append_assoc]; rfl
          · simp only [ba_app', lineT_data, List.append_assoc]; rfl
        · rw [if_pos (show j = 0 by omega)] at s1 s2 s3
          rw [if_neg hj3]
          simp only [ByteArray.size_append, hbl, hnl, hsp, hem, ba_size, docNs_len, List.length_append, List.length_cons, List.length_nil] at *
          refine ⟨by omega, by omega, by omega, j + 1, by omega, by omega, Le.of (fun _ => 85) [] ?_⟩
          rw [s1, s2, s3]
          simp only [intsD, docNs_app, docNs_len, docNs, docN, List.length_append, List.length_cons, List.length_nil, List.append_assoc, List.cons_append, List.nil_append, Mt_tup, Mt_agg, Mt_fn, forall_eq, forall_eq_or_imp, ne_eq, List.all_cons, List.all_nil, pr, Nat.reduceLeDiff, slR_nil, slR_cons, hpR_nil, hpR_cells, hpR_row, idsR_nil, idsR_cons, mtE_v, mtE_sl, mtE_nil, mtE_refl, mtE_row, mtE_born, mtE_ptr, mtE_rp, mtE_agg, mtE_tup, mtE_fn, mtE_ep, MtL_nil, MtL_cons, Mt_v, Mt_sl, Mt_nil, Mt_refl, Mt_row, Mt_born, Mt_ptr, MtO_cells, MtO_row, liveIds, distinct, Dat.v.injEq, Dat.sl.injEq, Value.int.injEq, Value.bool.injEq, Value.string.injEq, lk_cons, lk_nil, subL_nil, subL_cons, upIds, AV.ids, AV.ids.idsL, AObj.ids, Hp.get_cons, get_nil, allCell, AV.cell, vInt, vBool, vStr, id, true_and, and_true, and_self, List.append_nil, List.nil_append, List.not_mem_nil, List.mem_cons, or_false, false_or, or_self, not_true_eq_false, not_false_eq_true, false_imp_iff, false_implies, List.map_nil, not_false_eq_true, List.contains_cons, List.contains_nil, Bool.or_false, Bool.false_or, Bool.true_or, Bool.or_true, Bool.and_true, Bool.true_and, implies_true, if_true, if_false, reduceCtorEq, Nat.reduceEqDiff, Nat.reduceBEq, Nat.reduceAdd, reduceIte, ↓reduceIte]
          refine ⟨?_, ?_, w64 (by omega) (by omega)⟩
          · simp only [ba_app', List.append_assoc]
          · simp only [ba_app', List.append_assoc]
      · simp only [intsD, List.length_map, goTG_val, goTG_new, goTG_up, goTG_none, goG_none, goG_new, goG_up, ne_eq, evK, evH, retHF, DRun_mk, runT_nil, runT_none, runT_guard, goT_val, goT_new, goT_store, goTH_true, goTH_false, evO, keys, Option.toList_some, Option.toList_none, nzL_nil, nzL_cons, nz_k, nz_sl, nz_nil, nz_agg, startL, evC, evV, goE_val, goE_new, goE_store, goH_true, goH_false, goG_val, lk_cons, lk_nil, lk_func, lk_int, lk_bool, lk_string, lk_slice, lk_agg, look_mk, St.effOf, eff, effCall, effBin, effUn, effConv, effPick, effNil, effFold, fold1, effLoad, effStore, effFieldAddr, effField, fieldOf, sliceOf, effIndexAddr, effIndex, effLen, effExtract, effSlice, bnd, effBuild, placesOf, effBuildSlice, effMakeSlice, effAppend, srcOf, fillA, chunk, seg, toD, toDs, put, eqAV, fieldsEq, leafEq, strip, unw, allB, selP_or, selP_and, tis, TyD.agg, AV.cells, AV.cell, allCell, vInt, vBool, vStr, subL_nil, subL_cons, upIds, AV.ids, AV.ids.idsL, AObj.ids, drops, Hp.get_cons, get_nil, retF, resL, one, fz, fz.fzL, List.map_cons, List.map_nil, List.nil_append, List.append_nil, List.cons_append, List.all_cons, List.all_nil, List.length_cons, List.length_nil, List.getElem?_cons_zero, List.getElem?_cons_succ, List.getD_cons_zero, List.getD_cons_succ, List.take_succ_cons, List.take_zero, List.drop_succ_cons, List.drop_zero, List.take_nil, List.drop_nil, List.contains_cons, List.contains_nil, Option.getD_some, Option.getD_none, Option.map_some, Option.map_none, if_true, if_false, true_and, and_true, and_self, or_self, or_false, false_or, false_and, and_false, reduceCtorEq, sel_and, sel_or, decide_eq_true_eq, Bool.and_eq_true, Bool.or_eq_true, Bool.and_true, Bool.true_and, Bool.or_false, Bool.false_or, Bool.true_or, Bool.or_true, Bool.not_true, Bool.not_false, Bool.false_eq_true, implies_true, not_false_eq_true, Nat.reduceLT, Nat.reduceEqDiff, Nat.reduceAdd, Nat.reduceMul, Nat.reduceMod, Nat.reduceLeDiff, Nat.reduceBEq, Nat.zero_add, Nat.add_zero, reduceIte, ↓reduceIte, List.not_mem_nil]
        rw [if_neg hj2]
        obtain rfl : j = ws.length := by omega
        rw [List.take_of_length_le (Nat.le_refl _)]
        have hgn : Doc.mk 6 0 ByteArray.empty [Doc.mk 7 0 ByteArray.empty (inF 3 0 ws)] = gn (inF 3 0 ws) := rfl
        simp only [intsD, G11e_at, calmE, F_alive11, F_Pieces, F_PText, nz_r, nz_s2, nnR, nnC, nn, nn_docs, docsGN, pcs_map, pcOf_map, hgn, AV.flat, AV.flat.flatL, List.length_map, goTG_val, goTG_new, goTG_up, goTG_none, goG_none, goG_new, goG_up, ne_eq, evK, evH, retHF, DRun_mk, runT_nil, runT_none, runT_guard, goT_val, goT_new, goT_store, goTH_true, goTH_false, evO, keys, Option.toList_some, Option.toList_none, nzL_nil, nzL_cons, nz_k, nz_sl, nz_nil, nz_agg, startL, evC, evV, goE_val, goE_new, goE_store, goH_true, goH_false, goG_val, lk_cons, lk_nil, lk_func, lk_int, lk_bool, lk_string, lk_slice, lk_agg, look_mk, St.effOf, eff, effCall, effBin, effUn, effConv, effPick, effNil, effFold, fold1, effLoad, effStore, effFieldAddr, effField, fieldOf, sliceOf, effIndexAddr, effIndex, effLen, effExtract, effSlice, bnd, effBuild, placesOf, effBuildSlice, effMakeSlice, effAppend, srcOf, fillA, chunk, seg, toD, toDs, put, eqAV, fieldsEq, leafEq, strip, unw, allB, selP_or, selP_and, tis, TyD.agg, AV.cells, AV.cell, allCell, vInt, vBool, vStr, subL_nil, subL_cons, upIds, AV.ids, AV.ids.idsL, AObj.ids, drops, Hp.get_cons, get_nil, retF, resL, one, fz, fz.fzL, List.map_cons, List.map_nil, List.nil_append, List.append_nil, List.cons_append, List.all_cons, List.all_nil, List.length_cons, List.length_nil, List.getElem?_cons_zero, List.getElem?_cons_succ, List.getD_cons_zero, List.getD_cons_succ, List.take_succ_cons, List.take_zero, List.drop_succ_cons, List.drop_zero, List.take_nil, List.drop_nil, List.contains_cons, List.contains_nil, Option.getD_some, Option.getD_none, Option.map_some, Option.map_none, if_true, if_false, true_and, and_true, and_self, or_self, or_false, false_or, false_and, and_false, reduceCtorEq, sel_and, sel_or, decide_eq_true_eq, Bool.and_eq_true, Bool.or_eq_true, Bool.and_true, Bool.true_and, Bool.or_false, Bool.false_or, Bool.true_or, Bool.or_true, Bool.not_true, Bool.not_false, Bool.false_eq_true, implies_true, not_false_eq_true, Nat.reduceLT, Nat.reduceEqDiff, Nat.reduceAdd, Nat.reduceMul, Nat.reduceMod, Nat.reduceLeDiff, Nat.reduceBEq, Nat.zero_add, Nat.add_zero, reduceIte, ↓reduceIte, List.not_mem_nil]
        obtain ⟨p1, p2, p3, p4, p5⟩ := fits_plain 3 [] (by simp) ws (by omega) w i (by omega) hi
        refine ⟨⟨by rw [docD_eq]; rfl, p1, p2⟩, ⟨p3, p4⟩, ?_⟩
        rw [p5, ba_size]
        split
        · rw [beq_self_eq_true]
          try exact Sub.refl _
        · rw [beq_self_eq_true]
          try exact Sub.refl _
end Go.Proofs.Ythcgkfgkknofnaa.Eng
