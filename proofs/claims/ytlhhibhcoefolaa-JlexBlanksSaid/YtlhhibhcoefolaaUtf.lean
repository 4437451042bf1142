/- UTF-8 in plain Lean: how a code point is written (put), which one begins a text (dec), and what these have to do with each other. No program stands here. -/
import Derived.Test.YtlhhibhcoefolaaBase
namespace Go.Proofs.Ytlhhibhcoefolaa.Utf
open Go.RowKit Go.Proofs.YtlhhibhcoefolaaW.PrintWords Go.Proofs.Ytlhhibhcoefolaa.Base

def isCp (r : Int) : Prop := 0 ≤ r ∧ r ≤ 1114111 ∧ (r < 55296 ∨ 57343 < r)
instance (r : Int) : Decidable (isCp r) := by unfold isCp; infer_instance
def enc (r : Int) : List Int :=
  if r < 128 then [r]
  else if r < 2048 then [192 + r / 64, 128 + r % 64]
  else if r < 65536 then [224 + r / 4096, 128 + r / 64 % 64, 128 + r % 64]
  else [240 + r / 262144, 128 + r / 4096 % 64, 128 + r / 64 % 64, 128 + r % 64]
def fix (r : Int) : Int := if isCp r then r else 65533
def put (r : Int) : List Int := enc (fix r)
def size (r : Int) : Int := if r < 128 then 1 else if r < 2048 then 2 else if r < 65536 then 3 else 4
def cont (c : Int) : Prop := 128 ≤ c ∧ c < 192
instance (c : Int) : Decidable (cont c) := by unfold cont; infer_instance
def bad : Int × Int × Bool := (65533, 1, false)
/-- What is made of the bits of n bytes. -/
def fin (r n : Int) : Int × Int × Bool := if isCp r ∧ size r = n then (r, n, true) else bad
/-- The code point that begins a text. -/
def dec : List Int → Int × Int × Bool
  | [] => (0, 0, false)
  | c :: t =>
    if c < 128 then (c, 1, true)
    else if 194 ≤ c ∧ c < 224 then
      match t with
      | d :: _ => if cont d then fin ((c - 192) * 64 + (d - 128)) 2 else bad
      | [] => bad
    else if 224 ≤ c ∧ c < 240 then
      match t with
      | d :: e :: _ => if cont d ∧ cont e then fin ((c - 224) * 4096 + (d - 128) * 64 + (e - 128)) 3 else bad
      | _ => bad
    else if 240 ≤ c ∧ c < 245 then
      match t with
      | d :: e :: f :: _ => if cont d ∧ cont e ∧ cont f then fin ((c - 240) * 262144 + (d - 128) * 4096 + (e - 128) * 64 + (f - 128)) 4 else bad
      | _ => bad
    else bad
/-- The code point that begins at a place. -/
def nx (l : List Int) (i : Int) : Int × Int × Bool := if i < 0 ∨ (l.length : Int) ≤ i then (0, 0, false) else dec (l.drop i.toNat)

theorem fix_cp (r : Int) : isCp (fix r) := by
  unfold fix
  split
  · assumption
  · decide
theorem fix_of {r : Int} (h : isCp r) : fix r = r := if_pos h
theorem enc_size {r : Int} : ((enc r).length : Int) = size r := by
  unfold enc size
  (repeat' split) <;> simp
theorem enc_bytes {r : Int} (h : isCp r) : Bytes (enc r) := by
  unfold isCp at h
  unfold enc
  (repeat' split) <;> (intro x hx; simp only [List.mem_cons, List.not_mem_nil, or_false] at hx)
  · omega
  · rcases hx with rfl | rfl <;> omega
  · rcases hx with rfl | rfl | rfl <;> omega
  · rcases hx with rfl | rfl | rfl | rfl <;> omega
theorem put_bytes (r : Int) : Bytes (put r) := enc_bytes (fix_cp r)
theorem put_size (r : Int) : ((put r).length : Int) = size (fix r) := enc_size
theorem size_range (r : Int) : 1 ≤ size r ∧ size r ≤ 4 := by
  unfold size
  (repeat' split) <;> omega
theorem put_length (r : Int) : 1 ≤ (put r).length ∧ (put r).length ≤ 4 := by
  have := put_size r
  have := size_range (fix r)
  omega
/-- What was written is read. -/
theorem dec_enc {r : Int} (h : isCp r) (t : List Int) : dec (enc r ++ t) = (r, size r, true) := by
  have h' := h
  unfold isCp at h'
  unfold enc size
  split
  · simp [dec, *]
  · split
    · have e1 : ¬ (192 + r / 64 < 128) := by omega
      have e2 : 194 ≤ 192 + r / 64 ∧ 192 + r / 64 < 224 := by omega
      have e3 : cont (128 + r % 64) := by unfold cont; omega
      have e4 : (192 + r / 64 - 192) * 64 + (128 + r % 64 - 128) = r := by omega
      simp only [List.cons_append, List.nil_append, dec, if_neg e1, if_pos e2, if_pos e3, e4]
      unfold fin
      rw [if_pos ⟨h, by unfold size; rw [if_neg (by omega), if_pos (by omega)]⟩]
    · split
      · have e1 : ¬ (224 + r / 4096 < 128) := by omega
        have e2 : ¬ (194 ≤ 224 + r / 4096 ∧ 224 + r / 4096 < 224) := by omega
        have e3 : 224 ≤ 224 + r / 4096 ∧ 224 + r / 4096 < 240 := by omega
        have e5 : cont (128 + r / 64 % 64) ∧ cont (128 + r % 64) := by unfold cont; omega
        have e4 : (224 + r / 4096 - 224) * 4096 + (128 + r / 64 % 64 - 128) * 64 + (128 + r % 64 - 128) = r := by omega
        simp only [List.cons_append, List.nil_append, dec, if_neg e1, if_neg e2, if_pos e3, if_pos e5, e4]
        unfold fin
        rw [if_pos ⟨h, by unfold size; rw [if_neg (by omega), if_neg (by omega), if_pos (by omega)]⟩]
      · have e1 : ¬ (240 + r / 262144 < 128) := by omega
        have e2 : ¬ (194 ≤ 240 + r / 262144 ∧ 240 + r / 262144 < 224) := by omega
        have e3 : ¬ (224 ≤ 240 + r / 262144 ∧ 240 + r / 262144 < 240) := by omega
        have e6 : 240 ≤ 240 + r / 262144 ∧ 240 + r / 262144 < 245 := by omega
        have e5 : cont (128 + r / 4096 % 64) ∧ cont (128 + r / 64 % 64) ∧ cont (128 + r % 64) := by unfold cont; omega
        have e4 : (240 + r / 262144 - 240) * 262144 + (128 + r / 4096 % 64 - 128) * 4096 + (128 + r / 64 % 64 - 128) * 64 + (128 + r % 64 - 128) = r := by omega
        simp only [List.cons_append, List.nil_append, dec, if_neg e1, if_neg e2, if_neg e3, if_pos e6, if_pos e5, e4]
        unfold fin
        rw [if_pos ⟨h, by unfold size; rw [if_neg (by omega), if_neg (by omega), if_neg (by omega)]⟩]
theorem dec_put (r : Int) (t : List Int) : dec (put r ++ t) = (fix r, size (fix r), true) := dec_enc (fix_cp r) t
/-- What is read well stands there as it is written. -/
theorem enc_dec {l : List Int} (hb : Bytes l) {r n : Int} (h : dec l = (r, n, true)) : isCp r ∧ n = size r ∧ ∃ t, l = enc r ++ t := by
  match l with
  | [] => simp [dec] at h
  | c :: t =>
    have hc := hb.head
    simp only [dec] at h
    split at h
    · simp only [Prod.mk.injEq] at h
      obtain ⟨rfl, rfl, _⟩ := h
      refine ⟨⟨by omega, by omega, by omega⟩, by simp [size, *], t, by simp [enc, *]⟩
    · split at h
      · match t with
        | [] => simp [bad] at h
        | d :: t =>
          simp only at h
          split at h
          · rename_i hd
            unfold cont at hd
            unfold fin at h
            split at h
            · rename_i hr
              simp only [Prod.mk.injEq] at h
              obtain ⟨rfl, rfl, _⟩ := h
              refine ⟨hr.1, hr.2.symm, t, ?_⟩
              unfold enc
              rw [if_neg (by omega), if_pos (by omega)]
              simp only [List.cons_append, List.nil_append, List.cons.injEq, and_true]
              omega
            · simp [bad] at h
          · simp [bad] at h
      · split at h
        · match t with
          | [] => simp [bad] at h
          | [_] => simp [bad] at h
          | d :: e :: t =>
            simp only at h
            split at h
            · rename_i hd
              unfold cont at hd
              unfold fin at h
              split at h
              · rename_i hr
                simp only [Prod.mk.injEq] at h
                obtain ⟨rfl, rfl, _⟩ := h
                refine ⟨hr.1, hr.2.symm, t, ?_⟩
                have hs := hr.2
                unfold size at hs
                unfold enc
                split at hs
                · omega
                · split at hs
                  · omega
                  · split at hs
                    · rw [if_neg (by omega), if_neg (by omega), if_pos (by omega)]
                      simp only [List.cons_append, List.nil_append, List.cons.injEq, and_true]
                      omega
                    · omega
              · simp [bad] at h
            · simp [bad] at h
        · split at h
          · match t with
            | [] => simp [bad] at h
            | [_] => simp [bad] at h
            | [_, _] => simp [bad] at h
            | d :: e :: f :: t =>
              simp only at h
              split at h
              · rename_i hd
                unfold cont at hd
                unfold fin at h
                split at h
                · rename_i hr
                  simp only [Prod.mk.injEq] at h
                  obtain ⟨rfl, rfl, _⟩ := h
                  refine ⟨hr.1, hr.2.symm, t, ?_⟩
                  have hs := hr.2
                  unfold size at hs
                  unfold enc
                  split at hs
                  · omega
                  · split at hs
                    · omega
                    · split at hs
                      · omega
                      · rw [if_neg (by omega), if_neg (by omega), if_neg (by omega)]
                        simp only [List.cons_append, List.nil_append, List.cons.injEq, and_true]
                        omega
                · simp [bad] at h
              · simp [bad] at h
          · simp [bad] at h
/-- How many bytes are read: at least one, of a text that isn't empty, and no more than there are. -/
theorem dec_len {l : List Int} (hb : Bytes l) (h : l ≠ []) : 1 ≤ (dec l).2.1 ∧ (dec l).2.1 ≤ (l.length : Int) ∧ (dec l).2.1 ≤ 4 := by
  rcases hd : dec l with ⟨r, n, ok⟩
  cases ok with
  | true =>
    obtain ⟨hr, rfl, t, rfl⟩ := enc_dec hb hd
    have := size_range r
    have := @enc_size r
    simp only [List.length_append]
    omega
  | false =>
    have : n = 1 := by
      match l with
      | [] => exact absurd rfl h
      | c :: t =>
        simp only [dec] at hd
        unfold fin bad at hd
        repeat' split at hd
        all_goals simp_all
    subst this
    cases l with
    | nil => exact absurd rfl h
    | cons c t => simp only [List.length_cons]; omega
theorem dec_false {l : List Int} (h : l ≠ []) (hd : (dec l).2.2 = false) : dec l = bad := by
  match l with
  | [] => exact absurd rfl h
  | c :: t =>
    have key : ∀ x, dec (c :: t) = x → x.2.2 = false → x = bad := by
      intro x hx hf
      simp only [dec, fin] at hx
      repeat' split at hx
      all_goals (subst hx; first | rfl | (simp at hf))
    exact key _ rfl hd
theorem dec_true_pos {l : List Int} (hd : (dec l).2.2 = true) : l ≠ [] := by
  rintro rfl
  simp [dec] at hd
theorem nx_at (a t : List Int) : nx (a ++ t) (a.length : Int) = dec t := by
  unfold nx
  cases t with
  | nil => rw [if_pos (by right; simp)]; rfl
  | cons c t => rw [if_neg (by simp; omega)]; simp
theorem nx_out {l : List Int} {i : Int} (h : i < 0 ∨ (l.length : Int) ≤ i) : nx l i = (0, 0, false) := if_pos h

/-- Texts of code points. -/
def encAll (l : List Int) : List Int := l.flatMap enc
theorem encAll_nil : encAll [] = [] := rfl
theorem encAll_cons (r : Int) (l : List Int) : encAll (r :: l) = enc r ++ encAll l := rfl
theorem encAll_append (a b : List Int) : encAll (a ++ b) = encAll a ++ encAll b := by simp [encAll]
/-- Each text is code points, then nothing or what is wrong. -/
theorem parts (l : List Int) (hb : Bytes l) : ∃ rs t, l = encAll rs ++ t ∧ (∀ r ∈ rs, isCp r) ∧ (dec t).2.2 = false := by
  have key : ∀ n : Nat, ∀ l : List Int, l.length ≤ n → Bytes l → ∃ rs t, l = encAll rs ++ t ∧ (∀ r ∈ rs, isCp r) ∧ (dec t).2.2 = false := by
    intro n
    induction n with
    | zero =>
      intro l hn hb
      have : l = [] := List.length_eq_zero_iff.1 (by omega)
      subst this
      exact ⟨[], [], rfl, fun _ h => by simp at h, rfl⟩
    | succ n ih =>
      intro l hn hb
      rcases hd : dec l with ⟨r, m, ok⟩
      cases ok with
      | false => exact ⟨[], l, rfl, fun _ h => by simp at h, by rw [hd]⟩
      | true =>
        obtain ⟨hr, rfl, t, rfl⟩ := enc_dec hb hd
        have h1 := @enc_size r
        have h2 := size_range r
        obtain ⟨rs, u, rfl, hrs, hu⟩ := ih t (by simp only [List.length_append] at hn; omega) hb.right
        refine ⟨r :: rs, u, by rw [encAll_cons, List.append_assoc], ?_, hu⟩
        intro x hx
        rcases List.mem_cons.1 hx with rfl | h
        · exact hr
        · exact hrs x h
  exact key l.length l (Nat.le_refl _) hb

theorem encAll_bytes {rs : List Int} (h : ∀ r ∈ rs, isCp r) : Bytes (encAll rs) := by
  induction rs with
  | nil => exact Bytes.nil
  | cons r rs ih =>
    rw [encAll_cons]
    exact (enc_bytes (h r (by simp))).append (ih fun x hx => h x (by simp [hx]))
/-- No beginning of what is written for a code point is one, but the whole. -/
theorem dec_part {r : Int} (hr : isCp r) {j : Nat} (hj : j < (enc r).length) : (dec ((enc r).take j)).2.2 = false := by
  rcases hd : dec ((enc r).take j) with ⟨r', n, ok⟩
  cases ok with
  | false => rfl
  | true =>
    obtain ⟨hr', rfl, t, ht⟩ := enc_dec ((enc_bytes hr).take j) hd
    have h1 := dec_enc hr []
    rw [List.append_nil, ← List.take_append_drop j (enc r), ht, List.append_assoc, dec_enc hr'] at h1
    have h2 : size r' = size r := by
      simp only [Prod.mk.injEq] at h1
      exact h1.2.1
    have h3 := congrArg List.length ht
    simp only [List.length_append, List.length_take] at h3
    have h4 := @enc_size r
    have h5 := @enc_size r'
    omega
theorem enc_inj {r s : Int} (hr : isCp r) (hs : isCp s) (h : enc r = enc s) : r = s := by
  have h1 := dec_enc hr []
  rw [h, dec_enc hs []] at h1
  simp only [Prod.mk.injEq] at h1
  exact h1.1.symm

/-- A text is code points and what is wrong in one way alone. -/
theorem parts_unique {rb rc tb tc : List Int} (h1 : ∀ x ∈ rb, isCp x) (h2 : ∀ x ∈ rc, isCp x) (h3 : (dec tb).2.2 = false) (h4 : (dec tc).2.2 = false) (h5 : encAll rb ++ tb = encAll rc ++ tc) : rb = rc ∧ tb = tc := by
  induction rb generalizing rc with
  | nil =>
    cases rc with
    | nil => exact ⟨rfl, h5⟩
    | cons r rc =>
      rw [encAll_nil, List.nil_append, encAll_cons, List.append_assoc] at h5
      rw [h5, dec_enc (h2 r (by simp))] at h3
      exact absurd h3 (by simp)
  | cons r rb ih =>
    cases rc with
    | nil =>
      rw [encAll_nil, List.nil_append, encAll_cons, List.append_assoc] at h5
      rw [← h5, dec_enc (h1 r (by simp))] at h4
      exact absurd h4 (by simp)
    | cons s rc =>
      rw [encAll_cons, encAll_cons, List.append_assoc, List.append_assoc] at h5
      have h6 := dec_enc (h1 r (by simp)) (encAll rb ++ tb)
      rw [h5, dec_enc (h2 s (by simp))] at h6
      simp only [Prod.mk.injEq] at h6
      obtain ⟨rfl, -, -⟩ := h6
      obtain ⟨h7, h8⟩ := ih (fun x hx => h1 x (by simp [hx])) (fun x hx => h2 x (by simp [hx])) (List.append_cancel_left h5)
      exact ⟨by rw [h7], h8⟩

end Go.Proofs.Ytlhhibhcoefolaa.Utf
