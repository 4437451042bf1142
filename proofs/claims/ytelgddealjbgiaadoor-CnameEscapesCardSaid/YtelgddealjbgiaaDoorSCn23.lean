/- CnameEscapes: the plain law. -/
import Derived.Test.YtelgddealjbgiaaDoorSCn20
import Derived.Test.YtelgddealjbgiaaDoorSCn14
namespace Go.Proofs.YtelgddealjbgiaaDoor.Eng
open Go Go.Proofs.YtelgddealjbgiaaDoor.Base Go.Proofs.YtelgddealjbgiaaDoor.Cinput
set_option maxRecDepth 100000
set_option linter.unusedSimpArgs false
set_option linter.unusedVariables false
/-- A number's digits, the greatest first. -/
def valL : List Int → Int
  | [] => 0
  | d :: s => hexV d * 16 ^ s.length + valL s
theorem hexN_digits {l : List (Int × Int)} : ∀ (D rest : List Int) (f a : Nat) (n : Int), (∀ d ∈ D, hexP d) → (l.map Prod.fst).drop a = D ++ rest → D.length ≤ f → (D.length = f ∨ ∀ x m, rest = x :: m → ¬ hexP x) → hexN l f n a = (n * 16 ^ D.length + valL D, ((a + D.length : Nat) : Int))
  | [], rest, f, a, n, _, hd, hf, hs => by
    have hno : f = 0 ∨ ¬ hexP (atR l a) := by
      rcases hs with h | h
      · exact .inl h.symm
      · refine .inr fun hx => ?_
        have := at_nat l a 0
        rw [hd] at this
        simp only [Nat.add_zero, List.nil_append] at this
        rcases rest with _ | ⟨x, m⟩
        · rw [this] at hx; exact absurd hx (by decide)
        · rw [this] at hx; exact h x m rfl hx
    rw [hexN_stop hno]
    simp [valL]
  | d :: D, rest, 0, a, n, _, _, hf, _ => by simp at hf
  | d :: D, rest, f + 1, a, n, hD, hd, hf, hs => by
    have hat := at_nat l a 0
    rw [hd] at hat
    simp only [Nat.add_zero, List.cons_append, List.getElem?_cons_zero, Option.getD_some] at hat
    have hd2 : (l.map Prod.fst).drop (a + 1) = D ++ rest := by rw [← List.drop_drop, hd]; rfl
    rw [hexN, hat, if_pos (hD d (List.mem_cons_self ..)), show (a : Int) + 1 = ((a + 1 : Nat) : Int) by omega,
      hexN_digits D rest f (a + 1) _ (fun x hx => hD x (List.mem_cons_of_mem _ hx)) hd2 (by simpa using hf) (hs.imp (fun h => by simpa using h) id)]
    simp only [valL, List.length_cons, Int.pow_succ]
    congr 1
    · rw [Int.add_mul]
      have : 16 * n * 16 ^ D.length = n * (16 ^ D.length * 16) := by rw [Int.mul_comm 16 n, Int.mul_assoc, Int.mul_comm 16]
      omega
    · omega
theorem hexP_range {x : Int} (h : hexP x) : 48 ≤ x ∧ x ≤ 102 := by unfold hexP digP at h; omega
/-- An escape of digits, a blank or none, and a bracket. -/
theorem esc_take {l : List (Int × Int)} {D E : List Int} {r : Int} (h : l.map Prod.fst = 92 :: (D ++ (E ++ [40]))) (hD : ∀ d ∈ D, hexP d) (hD1 : 1 ≤ D.length) (hD6 : D.length ≤ 6) (hv : valL D = r) (hr : Utf.isCp r ∧ r ≠ 0) (hE : E = [] ∨ ∃ e, E = [e] ∧ blankC e) :
    takeV l 0 = ([r], ((1 + D.length + E.length : Nat) : Int)) ∧ begP l 0 ∧ l.length = D.length + E.length + 2 := by
  have hlen : l.length = D.length + E.length + 2 := by have := congrArg List.length h; rw [List.length_map] at this; rw [this]; simp; omega
  obtain ⟨d, D', rfl⟩ : ∃ d D', D = d :: D' := by
    rcases D with _ | ⟨d, D'⟩
    · simp at hD1
    · exact ⟨d, D', rfl⟩
  have hd := hexP_range (hD d (List.mem_cons_self ..))
  have a0 : atR l 0 = 92 := by have := at_nat l 0 0; rw [List.drop_zero, h] at this; simpa using this
  have a1 : atR l (0 + 1) = d := by have := at_nat l 0 1; rw [List.drop_zero, h] at this; simpa using this
  have hesc : escP l 0 := ⟨a0, by rw [a1]; omega⟩
  have hrest : ∀ x m, E ++ [40] = x :: m → ¬ hexP x := fun x m hx => by
    rcases hE with rfl | ⟨e, rfl, he⟩
    · simp only [List.nil_append, List.cons.injEq] at hx
      rw [← hx.1]; decide
    · simp only [List.cons_append, List.nil_append, List.cons.injEq] at hx
      rw [← hx.1]
      unfold blankC at he
      unfold hexP digP
      omega
  have hN := hexN_digits (l := l) (d :: D') (E ++ [40]) 6 1 0 hD (by rw [h]; rfl) hD6 (.inr hrest)
  rw [hv, Int.zero_mul, Int.zero_add] at hN
  have hfix : fixN r = r := by
    have := hr.1
    unfold Utf.isCp at this
    unfold fixN
    rw [if_neg (by omega)]
  have hatE := at_nat l (1 + (d :: D').length) 0
  have hdr : (l.map Prod.fst).drop (1 + (d :: D').length) = E ++ [40] := by
    rw [← List.drop_drop, h, List.drop_succ_cons, List.drop_zero, List.drop_left']; rfl
  rw [hdr, Nat.add_zero] at hatE
  have hev : escV l 0 = (r, ((1 + (d :: D').length + E.length : Nat) : Int)) := by
    rw [escV_eq (by omega) (by exact hN), if_neg (by omega), hatE, hfix]
    rcases hE with rfl | ⟨e, rfl, he⟩
    · rw [if_neg (by decide)]; simp
    · rw [if_pos (by simpa using he)]
      congr 1
  refine ⟨?_, ⟨by omega, ?_⟩, hlen⟩
  · unfold takeV
    have hc : clampR l 0 = 0 := by unfold clampR; rw [if_neg (by omega), if_neg (by omega)]
    obtain ⟨f, hf⟩ : ∃ f, l.length = f + 1 + 1 := ⟨l.length - 2, by omega⟩
    rw [hc, hf, takeN, if_neg (by omega), a0, if_neg (by decide), if_pos hesc, hev]
    have hst : takeN l (f + 1) ((1 + (d :: D').length + E.length : Nat) : Int) = ([], ((1 + (d :: D').length + E.length : Nat) : Int)) := by
      have hat := at_nat l (1 + (d :: D').length + E.length) 0
      have hdr2 : (l.map Prod.fst).drop (1 + (d :: D').length + E.length) = [40] := by
        rw [← List.drop_drop, hdr, List.drop_left']; rfl
      rw [hdr2, Nat.add_zero] at hat
      simp only [List.getElem?_cons_zero, Option.getD_some] at hat
      rw [takeN, if_neg (by omega), hat, if_neg (by decide), if_neg (fun h => by have := h.1; omega)]
    rw [hst]
  · rw [a0, if_neg (by decide)]
    exact .inr hesc
/-- The text's code points. -/
theorem pts_one {r : Int} (hr : Utf.isCp r ∧ r ≠ 0) : ptsL (Utf.enc r) = [r] := by
  have hs := @Utf.enc_size r
  have hsr := Utf.size_range r
  have hd := Utf.dec_enc hr.1 []
  rw [List.append_nil] at hd
  unfold ptsL
  obtain ⟨n, hn⟩ : ∃ n, (Utf.enc r).length = n + 1 := ⟨(Utf.enc r).length - 1, by omega⟩
  rw [hn, alls, if_neg (fun h => by rw [h] at hn; simp at hn), hd]
  have : (Utf.enc r).drop (Utf.size r).toNat = [] := List.drop_eq_nil_of_le (by omega)
  show (r :: alls n ((Utf.enc r).drop (Utf.size r).toNat)).map z0 = [r]
  rw [this, alls_nil]
  show [z0 r] = [r]
  unfold z0; rw [if_neg hr.2]
/- Digits made. -/
def dgG (g : Bool) (n : Nat) : Int := if n < 10 then 48 + n else if g then 55 + n else 87 + n
def hexY (g : Bool) : ByteArray := if g then ⟨#[48, 49, 50, 51, 52, 53, 54, 55, 56, 57, 65, 66, 67, 68, 69, 70]⟩ else ⟨#[48, 49, 50, 51, 52, 53, 54, 55, 56, 57, 97, 98, 99, 100, 101, 102]⟩
theorem ext_hexY (g : Bool) : ∀ k : Fin 16, (hexY g).extract k.val (k.val + 1) = strOfNums [dgG g k.val] := by cases g <;> decide +kernel
theorem dgG_hex (g : Bool) : ∀ k : Fin 16, hexP (dgG g k.val) ∧ hexV (dgG g k.val) = k.val := by cases g <;> decide +kernel
theorem size_hexY (g : Bool) : (hexY g).size = 16 := by cases g <;> rfl
def tabB : List (List Int) := [[32], [9], [10], []]
theorem tabB_at {k : Nat} (hk : k < 4) (z : List Dat) : ([[Dat.v (.string ⟨#[32]⟩)], [Dat.v (.string ⟨#[9]⟩)], [Dat.v (.string ⟨#[10]⟩)], [Dat.v (.string ⟨#[]⟩)]] : List (List Dat)).getD k z = [Dat.v (.string (strOfNums (tabB.getD k [])))] := by
  have h : ([[Dat.v (.string ⟨#[32]⟩)], [Dat.v (.string ⟨#[9]⟩)], [Dat.v (.string ⟨#[10]⟩)], [Dat.v (.string ⟨#[]⟩)]] : List (List Dat)) = tabB.map fun s => [Dat.v (.string (strOfNums s))] := rfl
  rw [h, List.getD_eq_getElem?_getD, List.getElem?_map, List.getD_eq_getElem?_getD, List.getElem?_eq_getElem (show k < tabB.length from hk)]; rfl
theorem tabB_is : ∀ k : Fin 4, (tabB.getD k.val [] = [] ∨ ∃ x, tabB.getD k.val [] = [x] ∧ blankC x) := fun k => by
  have key : ∀ k : Fin 4, (tabB.getD k.val []).length ≤ 1 ∧ (tabB.getD k.val []).all (fun x => decide (blankC x)) = true := by decide +kernel
  obtain ⟨h1, h2⟩ := key k
  generalize tabB.getD k.val [] = E at h1 h2
  rcases E with _ | ⟨x, _ | ⟨y, E⟩⟩
  · exact .inl rfl
  · simp only [List.all_cons, List.all_nil, Bool.and_true, decide_eq_true_eq] at h2
    exact .inr ⟨x, rfl, h2⟩
  · simp at h1
theorem and3 (e : Int) : 0 ≤ bits .and .i64 e 3 ∧ bits .and .i64 e 3 < 4 := by
  have h : bits .and .i64 e 3 = IntKind.i64.wrap (((BitVec.ofInt 64 e).toNat &&& 3 : Nat) : Int) := by simp only [bits, BitVec.toNat_and]; rfl
  have h2 := Nat.and_lt_two_pow (BitVec.ofInt 64 e).toNat (show 3 < 2 ^ 2 by decide)
  rw [h, w64 (by omega) (by omega)]
  omega
noncomputable def G14e : Gam := (((((Gam.none.add 8 fun a => F_alive14 (NT.nz.nzL [] a)).add 26 fun a => F_pts (NT.nz.nzL [] a)).add 25 fun a => F_Runes (NT.nz.nzL [.s 1] a)).add 10 fun a => F_take (NT.nz.nzL [.s 2] a)).add 16 fun a => F_beg (NT.nz.nzL [.s 2] a))
theorem known_G14e : Known Tryd.prog G14e := (((((Known.none _).addC _ alive14_c).addC _ pts_calm).addC _ Runes_calm).addC _ takeI_calm).addC _ begI_calm
theorem G14e_at : (∀ h d a, G14e 8 h d a = calmE (fun a => F_alive14 (NT.nz.nzL [] a)) h a) ∧ (∀ h d a, G14e 26 h d a = calmE (fun a => F_pts (NT.nz.nzL [] a)) h a) ∧ (∀ h d a, G14e 25 h d a = calmE (fun a => F_Runes (NT.nz.nzL [.s 1] a)) h a) ∧ (∀ h d a, G14e 10 h d a = calmE (fun a => F_take (NT.nz.nzL [.s 2] a)) h a) ∧ (∀ h d a, G14e 16 h d a = calmE (fun a => F_beg (NT.nz.nzL [.s 2] a)) h a) := ⟨fun _ _ _ => rfl, fun _ _ _ => rfl, fun _ _ _ => rfl, fun _ _ _ => rfl, fun _ _ _ => rfl⟩
end Go.Proofs.YtelgddealjbgiaaDoor.Eng
