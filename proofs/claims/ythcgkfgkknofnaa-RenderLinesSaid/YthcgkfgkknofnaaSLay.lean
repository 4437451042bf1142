/- How documents are laid out, in plain Lean. -/
import Derived.Test.YthcgkfgkknofnaaSDoc4
import Derived.Test.YthcgkfgkknofnaaSPcs
namespace Go.Proofs.Ythcgkfgkknofnaa.Eng
open Go Go.Proofs.Ythcgkfgkknofnaa.Base
set_option maxRecDepth 100000
set_option linter.unusedSimpArgs false
set_option linter.unusedVariables false
/-- An item of the row: a document, its level, its way. -/
structure It where
  d : Doc
  lv : Int
  fl : Bool
def itD (x : It) : List Dat := docD x.d ++ [.v (.int .i64 x.lv), .v (.bool x.fl)]
theorem itD_eq (x : It) : itD x = [.v (.int .i64 x.d.k), .v (.int .i64 x.d.f), .v (.string x.d.t), .sl 4 (x.d.kids.map docD), .v (.int .i64 x.lv), .v (.bool x.fl)] := by rw [itD, docD_eq]; rfl
def flatB (d : Doc) : ByteArray := ⟨(rfS d).1.toArray⟩
/-- How wide a document is, flat. -/
def fw (d : Doc) : Int := wide (flatB d)
mutual
/-- How wide it is, broken, up to the next break; and whether there is one. -/
def bw : Doc → Int × Bool
  | .mk k _ t l => if k = 1 then (wide t, false) else if k = 2 ∨ k = 3 ∨ k = 4 then (0, true) else bws l
def bws : List Doc → Int × Bool
  | [] => (0, false)
  | d :: l => if (bw d).2 = true then ((bw d).1, true) else ((bw d).1 + (bws l).1, (bws l).2)
end
theorem bw_eq (d : Doc) : bw d = if d.k = 1 then (wide d.t, false) else if d.k = 2 ∨ d.k = 3 ∨ d.k = 4 then (0, true) else bws d.kids := by cases d; rw [bw]; rfl
def sumB : List It → Int
  | [] => 0
  | x :: r => if x.fl = true then fw x.d + sumB r else if (bw x.d).2 = true then (bw x.d).1 else (bw x.d).1 + sumB r
def fitsR (w col : Int) (d : Doc) (r : List It) : Bool := (rfS d).2 && decide (col + fw d + sumB r ≤ w)
/-- The item, with its kids' level and way. -/
def inI (w col : Int) (x : It) (r : List It) : It :=
  if x.d.k = 7 then ⟨x.d, x.lv + 1, x.fl⟩ else if x.d.k = 6 then ⟨x.d, x.lv, x.fl || fitsR w col x.d r⟩ else x
def kidsI (x : It) : List It := x.d.kids.map fun d => ⟨d, x.lv, x.fl⟩
def blanksB (n : Int) : ByteArray := ⟨(List.replicate n.toNat 32).toArray⟩
def lineT (n : Int) : ByteArray := ⟨#[10]⟩ ++ blanksB n
/-- One step: the row, the column, and what is made. -/
def stepR (w i : Int) (x : It) (r : List It) (col : Int) : List It × Int × List Pc :=
  if x.d.k = 1 then (if x.d.t.size = 0 then (r, col, []) else (r, col + wide x.d.t, [(x.d.t, x.d.f)]))
  else if x.d.k = 2 ∨ x.d.k = 3 ∨ x.d.k = 4 then
    (if x.fl = true then (if x.d.k = 2 then (r, col + 1, [(⟨#[32]⟩, -1)]) else (r, col, [])) else (r, x.lv * i, [(lineT (x.lv * i), -1)]))
  else (kidsI (inI w col x r) ++ r, col, [])
def lay (w i : Int) : Nat → List It → Int → List Pc
  | 0, _, _ => []
  | _ + 1, [], _ => []
  | n + 1, x :: r, col => (stepR w i x r col).2.2 ++ lay w i n (stepR w i x r col).1 (stepR w i x r col).2.1
def szr : List It → Nat
  | [] => 0
  | x :: r => dsz x.d + szr r
def trr : List It → Nat
  | [] => 0
  | x :: r => tot x.d + trr r
theorem szr_app : ∀ a b, szr (a ++ b) = szr a + szr b
  | [], b => by simp [szr]
  | x :: a, b => by simp only [List.cons_append, szr, szr_app a b]; omega
theorem trr_app : ∀ a b, trr (a ++ b) = trr a + trr b
  | [], b => by simp [trr]
  | x :: a, b => by simp only [List.cons_append, trr, trr_app a b]; omega
theorem szr_kids (lv : Int) (fl : Bool) : ∀ l : List Doc, szr (l.map fun d => ⟨d, lv, fl⟩) = dszs l
  | [] => rfl
  | d :: l => by simp only [List.map_cons, szr, dszs, szr_kids lv fl l]
theorem trr_kids (lv : Int) (fl : Bool) : ∀ l : List Doc, trr (l.map fun d => ⟨d, lv, fl⟩) = tots l
  | [] => rfl
  | d :: l => by simp only [List.map_cons, trr, tots, trr_kids lv fl l]
theorem dsz_eq (d : Doc) : dsz d = 1 + dszs d.kids := by cases d; rfl
theorem tot_eq (d : Doc) : tot d = 1 + d.t.size + tots d.kids := by cases d; rw [tot]; rfl
theorem inI_d (w col : Int) (x : It) (r : List It) : (inI w col x r).d = x.d := by
  unfold inI
  split
  · rfl
  · split <;> rfl
theorem inI_lv (w col : Int) (x : It) (r : List It) : (inI w col x r).lv ≤ x.lv + 1 ∧ x.lv ≤ (inI w col x r).lv := by
  unfold inI
  split
  · simp only []; omega
  · split
    · simp only []; omega
    · omega
theorem step_sz (w i : Int) (x : It) (r : List It) (col : Int) : szr (stepR w i x r col).1 < szr (x :: r) := by
  have h1 : 1 ≤ dsz x.d := by rw [dsz_eq]; omega
  unfold stepR
  split
  · split <;> simp only [szr] <;> omega
  · split
    · split
      · split <;> simp only [szr] <;> omega
      · simp only [szr]; omega
    · simp only [szr, szr_app, kidsI, szr_kids, inI_d]
      rw [dsz_eq x.d]; omega
theorem step_tr (w i : Int) (x : It) (r : List It) (col : Int) : trr (stepR w i x r col).1 + 1 + (if x.d.k = 1 then x.d.t.size else 0) ≤ trr (x :: r) := by
  have h1 := tot_eq x.d
  unfold stepR
  split
  · split <;> simp only [trr] <;> omega
  · split
    · split
      · split <;> simp only [trr] <;> omega
      · simp only [trr]; omega
    · simp only [trr, trr_app, kidsI, trr_kids, inI_d]
      omega
theorem lay_fuel (w i : Int) : ∀ (n m : Nat) (r : List It) (col : Int), szr r ≤ n → szr r ≤ m → lay w i n r col = lay w i m r col
  | 0, 0, _, _, _, _ => rfl
  | 0, m + 1, [], _, _, _ => rfl
  | 0, _ + 1, x :: r, _, h, _ => by have := dsz_eq x.d; simp only [szr] at h; omega
  | n + 1, 0, [], _, _, _ => rfl
  | _ + 1, 0, x :: r, _, _, h => by have := dsz_eq x.d; simp only [szr] at h; omega
  | n + 1, m + 1, [], _, _, _ => rfl
  | n + 1, m + 1, x :: r, col, h1, h2 => by
    have := step_sz w i x r col
    rw [lay, lay, lay_fuel w i n m _ _ (by omega) (by omega)]
/-- A row, laid out from a column on. -/
def layR (w i : Int) (r : List It) (col : Int) : List Pc := lay w i (szr r) r col
theorem layR_nil (w i col : Int) : layR w i [] col = [] := rfl
theorem layR_cons (w i : Int) (x : It) (r : List It) (col : Int) : layR w i (x :: r) col = (stepR w i x r col).2.2 ++ layR w i (stepR w i x r col).1 (stepR w i x r col).2.1 := by
  have h := step_sz w i x r col
  unfold layR
  obtain ⟨n, hn⟩ : ∃ n, szr (x :: r) = n + 1 := ⟨szr (x :: r) - 1, by omega⟩
  rw [hn, lay, lay_fuel w i n (szr (stepR w i x r col).1) _ _ (by omega) (Nat.le_refl _)]
/-- What widths can be. -/
theorem fw_le (d : Doc) : 0 ≤ fw d ∧ fw d ≤ tot d := by
  have h1 := wide_le (flatB d)
  have h2 := rfS_tot d
  have h3 : (flatB d).size = (rfS d).1.length := ba_size _
  unfold fw; omega
mutual
theorem bw_le : ∀ d, 0 ≤ (bw d).1 ∧ (bw d).1 ≤ tot d
  | .mk k f t l => by
    have h1 := wide_le t
    have h2 := bws_le l
    rw [bw, tot]
    split
    · simp only []; omega
    · split
      · simp only []; omega
      · omega
theorem bws_le : ∀ l, 0 ≤ (bws l).1 ∧ (bws l).1 ≤ tots l
  | [] => by rw [bws, tots]; simp
  | d :: l => by
    have h1 := bw_le d
    have h2 := bws_le l
    rw [bws, tots]
    split <;> simp only [] <;> omega
end
theorem sumB_le : ∀ r, 0 ≤ sumB r ∧ sumB r ≤ trr r
  | [] => by simp [sumB, trr]
  | x :: r => by
    have h1 := fw_le x.d
    have h2 := bw_le x.d
    have h3 := sumB_le r
    rw [sumB, trr]
    split
    · omega
    · split <;> omega
/-- Documents that may be, may be deeper. -/
theorem rightC_mono {a b k f : Int} {t : ByteArray} {l : List Doc} {p q : Bool} (h : a ≤ b) (hpq : p = true → q = true) (hr : rightC a k f t l p = true) : rightC b k f t l q = true := by
  unfold rightC at hr ⊢
  split
  · rename_i c; rw [if_pos c] at hr; exact hr
  · rename_i c
    rw [if_neg c] at hr
    split
    · rename_i c2; rw [if_pos c2] at hr; exact hr
    · rename_i c2
      rw [if_neg c2] at hr
      split
      · rename_i c3
        rw [if_pos c3] at hr
        split at hr
        · rename_i c4
          rw [if_pos ⟨⟨by omega, c4.1.2⟩, c4.2⟩]
          exact hpq hr
        · cases hr
      · rename_i c3; rw [if_neg c3] at hr; cases hr
mutual
theorem right_mono : ∀ {a b : Int} (d : Doc), a ≤ b → right a d = true → right b d = true
  | a, b, .mk k f t l, h, hr => by
    rw [right] at hr ⊢
    exact rightC_mono h (fun hp => rights_mono l (by omega) hp) hr
theorem rights_mono : ∀ {a b : Int} (l : List Doc), a ≤ b → rights a l = true → rights b l = true
  | _, _, [], _, _ => rfl
  | a, b, d :: l, h, hr => by
    rw [rights, Bool.and_eq_true] at hr
    rw [rights, Bool.and_eq_true]
    exact ⟨right_mono d h hr.1, rights_mono l h hr.2⟩
end
theorem right_kinds {a : Int} {d : Doc} (h : right a d = true) : (d.k = 1 ∨ d.k = 2 ∨ d.k = 3 ∨ d.k = 4 ∨ d.k = 5 ∨ d.k = 6 ∨ d.k = 7) ∧ ((d.k = 5 ∨ d.k = 6 ∨ d.k = 7) → 0 < a ∧ ∀ x ∈ d.kids, right (a - 1) x = true) := by
  rw [right_eq, rightC] at h
  split at h
  · rename_i c; exact ⟨.inl c, fun q => by omega⟩
  · split at h
    · rename_i c; exact ⟨by omega, fun q => by omega⟩
    · split at h
      · rename_i c
        split at h
        · rename_i c2
          refine ⟨by omega, fun _ => ⟨c2.1.1, fun x hx => ?_⟩⟩
          exact List.all_eq_true.mp h x hx
        · cases h
      · cases h
/-- What holds of a row on the way: of all nodes, all of their texts. -/
structure RowOk (N T : Nat) (r : List It) : Prop where
  doc : ∀ x ∈ r, okD x.d ∧ right 200 x.d = true
  lev : ∀ x ∈ r, 0 ≤ x.lv ∧ x.lv + (dsz x.d : Nat) ≤ (N : Int)
  sz : szr r ≤ N
  tr : trr r ≤ T
theorem dszs_mem : ∀ {l : List Doc} {d : Doc}, d ∈ l → dsz d ≤ dszs l
  | x :: l, d, h => by
    rcases List.mem_cons.mp h with rfl | h
    · rw [dszs]; omega
    · have := dszs_mem h; rw [dszs]; omega
theorem okDs_mem : ∀ {l : List Doc} {d : Doc}, okDs l → d ∈ l → okD d
  | x :: l, d, h, hd => by
    rcases List.mem_cons.mp hd with rfl | hd
    · exact h.1
    · exact okDs_mem h.2 hd
theorem RowOk.tail {N T : Nat} {x : It} {r : List It} (h : RowOk N T (x :: r)) : RowOk N T r :=
  ⟨fun y hy => h.doc y (List.mem_cons_of_mem _ hy), fun y hy => h.lev y (List.mem_cons_of_mem _ hy), by have := h.sz; simp only [szr] at this; omega, by have := h.tr; simp only [trr] at this; omega⟩
theorem RowOk.step {N T : Nat} {w i : Int} {x : It} {r : List It} {col : Int} (h : RowOk N T (x :: r)) : RowOk N T (stepR w i x r col).1 := by
  have ht := h.tail
  have h1 := step_sz w i x r col
  have h2 := step_tr w i x r col
  refine ⟨?_, ?_, by have := h.sz; omega, by have := h.tr; omega⟩
  all_goals
    unfold stepR
    obtain ⟨d1, d2⟩ := h.doc x List.mem_cons_self
    obtain ⟨l1, l2⟩ := h.lev x List.mem_cons_self
    have hk := right_kinds d2
    split
    · split
      · first | exact ht.doc | exact ht.lev
      · first | exact ht.doc | exact ht.lev
    · split
      · split
        · split
          · first | exact ht.doc | exact ht.lev
          · first | exact ht.doc | exact ht.lev
        · first | exact ht.doc | exact ht.lev
      · intro y hy
        rcases List.mem_append.mp hy with hy | hy
        · obtain ⟨d, hd, rfl⟩ := List.mem_map.mp hy
          rw [inI_d] at hd
          have e1 := dsz_eq x.d
          have e2 := dszs_mem hd
          have e3 := inI_lv w col x r
          have e4 : okD d ∧ right 200 d = true := by
            rw [okD_eq] at d1
            exact ⟨okDs_mem d1.2.2 hd, right_mono d (by omega) ((hk.2 (by omega)).2 d hd)⟩
          first | exact e4 | exact ⟨by show 0 ≤ (inI w col x r).lv; omega, by show (inI w col x r).lv + (dsz d : Nat) ≤ (N : Int); omega⟩
        · first | exact ht.doc y hy | exact ht.lev y hy
theorem step_col {N T : Nat} {w i : Int} {x : It} {r : List It} {col : Int} (h : RowOk N T (x :: r)) (hi0 : 0 ≤ i) (hi : i ≤ 16) (h0 : 0 ≤ col) (h1 : col + trr (x :: r) ≤ 16 * N + T) : 0 ≤ (stepR w i x r col).2.1 ∧ (stepR w i x r col).2.1 + trr (stepR w i x r col).1 ≤ 16 * N + T := by
  have ht := step_tr w i x r col
  have htr := h.tr
  obtain ⟨l1, l2⟩ := h.lev x List.mem_cons_self
  have hwd := wide_le x.d.t
  have hm : 0 ≤ x.lv * i ∧ x.lv * i ≤ 16 * N := by
    have a1 := Int.mul_nonneg l1 hi0
    have a2 : x.lv * i ≤ x.lv * 16 := Int.mul_le_mul_of_nonneg_left hi l1
    omega
  unfold stepR at ht ⊢
  split
  · rename_i k
    rw [if_pos k, if_pos k] at ht
    split
    · rename_i c; rw [if_pos c] at ht; simp only [] at ht ⊢; omega
    · rename_i c; rw [if_neg c] at ht; simp only [] at ht ⊢; omega
  · rename_i k
    rw [if_neg k, if_neg k] at ht
    split
    · rename_i k2
      rw [if_pos k2] at ht
      split
      · rename_i c
        rw [if_pos c] at ht
        split
        · rename_i c2; rw [if_pos c2] at ht; simp only [] at ht ⊢; omega
        · rename_i c2; rw [if_neg c2] at ht; simp only [] at ht ⊢; omega
      · rename_i c; rw [if_neg c] at ht; simp only [] at ht ⊢; omega
    · rename_i k2
      rw [if_neg k2] at ht; simp only [] at ht ⊢; omega
theorem step_out (w i : Int) (x : It) (r : List It) (col : Int) : (stepR w i x r col).2.2.length ≤ 1 := by
  unfold stepR
  split
  · split <;> simp
  · split
    · split
      · split <;> simp
      · simp
    · simp
theorem szr_len : ∀ r : List It, r.length ≤ szr r
  | [] => Nat.le_refl _
  | x :: r => by have := dsz_eq x.d; have := szr_len r; simp only [szr, List.length_cons]; omega
theorem dszs_len : ∀ l : List Doc, l.length ≤ dszs l
  | [] => Nat.le_refl _
  | x :: r => by have := dsz_eq x; have := dszs_len r; simp only [dszs, List.length_cons]; omega
mutual
theorem dsz_tot : ∀ d, dsz d ≤ tot d
  | .mk k f t l => by have := dszs_tots l; rw [dsz, tot]; omega
theorem dszs_tots : ∀ l, dszs l ≤ tots l
  | [] => Nat.le_refl _
  | d :: l => by have := dsz_tot d; have := dszs_tots l; rw [dszs, tots]; omega
end
theorem row_mem_tot : ∀ {r : List It} {x : It}, x ∈ r → tot x.d ≤ trr r
  | y :: r, x, h => by
    rcases List.mem_cons.mp h with rfl | h
    · rw [trr]; omega
    · have := row_mem_tot h; rw [trr]; omega
end Go.Proofs.Ythcgkfgkknofnaa.Eng
