/- (MERGED: one text of several.) Which code points any bytes are, each from where, and any code points as a text: for any bytes and any code points (more than 400 are let through). -/
import Derived.Test.YtanepjclkciecaaQx14
import Derived.Test.YtanepjclkciecaaQx9
import Derived.Test.YtanepjclkciecaaQx11
import Derived.Test.YtanepjclkciecaaQx13
import Derived.Test.YtanepjclkciecaaQx8
import Derived.Test.YtanepjclkciecaaQx5
import Derived.Test.YtanepjclkciecaaQx7
import Derived.Test.YtanepjclkciecaaQx2
import Derived.Test.YtanepjclkciecaaQx3
import Derived.Test.YtanepjclkciecaaQx6
import Derived.Test.YtanepjclkciecaaQx4
import Derived.Laws.BitsLemmas
import Derived.Lib.Bytes
import Derived.Test.YtanepjclkciecaaWWords
import Derived.Test.YtanepjclkciecaaQx10
import Derived.Test.YtanepjclkciecaaQx15
import Derived.Test.YtanepjclkciecaaQx12
/- Plain lemmas on numbers of rounds, lists of bytes and wrapped sums: no program stands here. -/
namespace Go.Proofs.Ytanepjclkciecaa.Base
open Go.RowKit Go.Proofs.YtanepjclkciecaaW.PrintWords

/-- With rounds enough the answer is r. -/
def Evt {α : Type} (g : Nat → Option α) (r : α) : Prop := ∃ K, ∀ k, K ≤ k → g k = some r
theorem Evt.ex {α : Type} {g : Nat → Option α} {r : α} (h : Evt g r) : ∃ k, g k = some r := by
  obtain ⟨K, h⟩ := h
  exact ⟨K, h K (Nat.le_refl _)⟩
theorem Evt.const {α : Type} (r : α) : Evt (fun _ => some r) r := ⟨0, fun _ _ => rfl⟩
theorem Evt.of {α : Type} {x : Option α} {r : α} (h : x = some r) : Evt (fun _ => x) r := ⟨0, fun _ _ => h⟩
theorem Evt.bind {α β : Type} {g : Nat → Option α} {f : Nat → α → Option β} {a : α} {r : β} (h : Evt g a) (k : Evt (fun n => f n a) r) : Evt (fun n => (g n).bind (f n)) r := by
  obtain ⟨K, h⟩ := h
  obtain ⟨L, k⟩ := k
  refine ⟨max K L, fun n hn => ?_⟩
  have h1 := h n (by omega)
  have h2 := k n (by omega)
  simp only [h1, Option.bind_some, h2]
theorem Evt.succ {α : Type} {g : Nat → Option α} {r : α} (h : Evt (fun k => g (k + 1)) r) : Evt g r := by
  obtain ⟨K, h⟩ := h
  refine ⟨K + 1, fun k hk => ?_⟩
  obtain ⟨m, rfl⟩ : ∃ m, k = m + 1 := ⟨k - 1, by omega⟩
  exact h m (by omega)
theorem Evt.congr {α : Type} {g g' : Nat → Option α} {r : α} (h : Evt g' r) (e : ∀ k, g k = g' k) : Evt g r := by
  obtain ⟨K, h⟩ := h
  exact ⟨K, fun k hk => (e k).trans (h k hk)⟩
theorem Evt.pos {α : Type} {c : Prop} [Decidable c] {g f : Nat → Option α} {r : α} (hc : c) (h : Evt g r) : Evt (fun k => if c then g k else f k) r := by
  simp only [if_pos hc]
  exact h
theorem Evt.neg {α : Type} {c : Prop} [Decidable c] {g f : Nat → Option α} {r : α} (hc : ¬ c) (h : Evt f r) : Evt (fun k => if c then g k else f k) r := by
  simp only [if_neg hc]
  exact h
theorem Evt.unique {α : Type} {g : Nat → Option α} {r s : α} (h : Evt g r) (k : Evt g s) : r = s := by
  obtain ⟨K, h⟩ := h
  obtain ⟨L, k⟩ := k
  have h1 := h (max K L) (by omega)
  have h2 := k (max K L) (by omega)
  rw [h1] at h2
  exact Option.some.inj h2

theorem wrap64_in {n : Int} (h0 : -9223372036854775808 ≤ n) (h1 : n ≤ 9223372036854775807) : wrap64 n = n := by
  unfold wrap64
  omega

/-- Every element is a byte. -/
def Bytes (l : List Int) : Prop := ∀ x ∈ l, 0 ≤ x ∧ x < 256
theorem Bytes.nil : Bytes [] := fun _ h => by simp at h
theorem Bytes.append {a b : List Int} (ha : Bytes a) (hb : Bytes b) : Bytes (a ++ b) := fun x hx => by
  rcases List.mem_append.1 hx with h | h
  · exact ha x h
  · exact hb x h
theorem Bytes.cons {a : Int} {b : List Int} (ha : 0 ≤ a ∧ a < 256) (hb : Bytes b) : Bytes (a :: b) := fun x hx => by
  rcases List.mem_cons.1 hx with h | h
  · subst h; exact ha
  · exact hb x h
theorem Bytes.head {a : Int} {b : List Int} (h : Bytes (a :: b)) : 0 ≤ a ∧ a < 256 := h a (by simp)
theorem Bytes.tail {a : Int} {b : List Int} (h : Bytes (a :: b)) : Bytes b := fun x hx => h x (by simp [hx])
theorem Bytes.left {a b : List Int} (h : Bytes (a ++ b)) : Bytes a := fun x hx => h x (by simp [hx])
theorem Bytes.right {a b : List Int} (h : Bytes (a ++ b)) : Bytes b := fun x hx => h x (by simp [hx])
theorem Bytes.of_wf {l : List Int} (h : ∀ x ∈ l, (Lit.int .u8 x).wf = true) : Bytes l := fun x hx => by
  have := h x hx
  simp [Lit.wf, IntKind.min, IntKind.max, IntKind.bits, IntKind.signed] at this
  omega
theorem Bytes.drop {l : List Int} (h : Bytes l) (n : Nat) : Bytes (l.drop n) := fun x hx => h x (List.mem_of_mem_drop hx)
theorem Bytes.take {l : List Int} (h : Bytes l) (n : Nat) : Bytes (l.take n) := fun x hx => h x (List.mem_of_mem_take hx)
theorem i64_of_wf {x : Int} (h : (Lit.int .i64 x).wf = true) : -9223372036854775808 ≤ x ∧ x ≤ 9223372036854775807 := by
  simp [Lit.wf, IntKind.min, IntKind.max, IntKind.bits, IntKind.signed] at h
  omega

theorem rd_append (a : List Int) (c : Int) (t : List Int) : rd (a ++ c :: t) (a.length : Int) = c := by
  simp [rd]
theorem rd_end (a : List Int) : rd a (a.length : Int) = 0 := by
  simp [rd]
theorem rd_append' (a t : List Int) (j : Nat) : rd (a ++ t) ((a.length : Int) + (j : Int)) = rd t (j : Int) := by
  have : ((a.length : Int) + (j : Int)).toNat = a.length + j := by omega
  simp only [rd, this, Int.toNat_natCast]
  simp [List.getD_eq_getElem?_getD, List.getElem?_append_right]
theorem split_at {l : List Int} {i : Int} (h0 : 0 ≤ i) (h1 : i < (l.length : Int)) : ∃ a c t, l = a ++ c :: t ∧ i = (a.length : Int) := by
  obtain ⟨n, rfl⟩ := Int.eq_ofNat_of_zero_le h0
  have h2 : n < l.length := by omega
  refine ⟨l.take n, l[n], l.drop (n + 1), ?_, ?_⟩
  · rw [← List.drop_eq_getElem_cons h2, List.take_append_drop]
  · simp; omega

theorem u8_nat {x : Int} (h0 : 0 ≤ x) (h1 : x < 256) : ((UInt8.ofNat x.toNat).toNat : Int) = x := by
  rw [UInt8.toNat_ofNat', Nat.mod_eq_of_lt (by omega)]
  omega
theorem str_toList (xs : List Int) : (strOfNums xs).toList = Lib.bytesOf xs := Lib.strOfNums_toList xs
theorem str_size (xs : List Int) : (strOfNums xs).size = xs.length := by
  simp [strOfNums, ByteArray.size]
theorem bytes_of_str {xs : List Int} (h : Bytes xs) : Go.Proofs.YtanepjclkciecaaW.PrintWords.bytesOf (strOfNums xs) = xs := by
  unfold Go.Proofs.YtanepjclkciecaaW.PrintWords.bytesOf strOfNums
  simp only [List.map_map]
  have : ∀ x ∈ xs, ((fun b : UInt8 => (b.toNat : Int)) ∘ fun n : Int => UInt8.ofNat n.toNat) x = x := fun x hx => u8_nat (h x hx).1 (h x hx).2
  rw [List.map_congr_left this]
  simp
theorem u8s_inj {a b : List Int} (ha : Bytes a) (hb : Bytes b) (h : Lib.bytesOf a = Lib.bytesOf b) : a = b := by
  have h2 := congrArg (List.map fun b : UInt8 => (b.toNat : Int)) h
  unfold Lib.bytesOf at h2
  simp only [List.map_map] at h2
  have key : ∀ l : List Int, Bytes l → List.map ((fun b : UInt8 => (b.toNat : Int)) ∘ fun n : Int => UInt8.ofNat n.toNat) l = l := by
    intro l hl
    have : ∀ x ∈ l, ((fun b : UInt8 => (b.toNat : Int)) ∘ fun n : Int => UInt8.ofNat n.toNat) x = x := fun x hx => u8_nat (hl x hx).1 (hl x hx).2
    rw [List.map_congr_left this]
    simp
  rw [key a ha, key b hb] at h2
  exact h2
/-- One text of bytes before another one. -/
def lexLt : List Int → List Int → Bool
  | _, [] => false
  | [], _ :: _ => true
  | a :: x, b :: y => decide (a < b) || (decide (a = b) && lexLt x y)
theorem bytesLess_u8s {a b : List Int} (ha : Bytes a) (hb : Bytes b) : Op.bytesLess (Lib.bytesOf a) (Lib.bytesOf b) = lexLt a b := by
  induction a generalizing b with
  | nil => cases b <;> rfl
  | cons x a ih =>
    cases b with
    | nil => rfl
    | cons y b =>
      have hx := ha.head
      have hy := hb.head
      have h1 := u8_nat hx.1 hx.2
      have h2 := u8_nat hy.1 hy.2
      show (decide (UInt8.ofNat x.toNat < UInt8.ofNat y.toNat) || (UInt8.ofNat x.toNat == UInt8.ofNat y.toNat && Op.bytesLess (Lib.bytesOf a) (Lib.bytesOf b))) = _
      rw [ih ha.tail hb.tail]
      have e1 : decide (UInt8.ofNat x.toNat < UInt8.ofNat y.toNat) = decide (x < y) := by
        rw [decide_eq_decide, UInt8.lt_iff_toNat_lt]
        omega
      have e2 : (UInt8.ofNat x.toNat == UInt8.ofNat y.toNat) = decide (x = y) := by
        rw [Bool.eq_iff_iff, beq_iff_eq, decide_eq_true_iff]
        constructor
        · intro h
          rw [h] at h1
          omega
        · rintro rfl
          rfl
      rw [e1, e2]
      rfl
theorem str_extract (xs : List Int) (n : Nat) : ((strOfNums xs).extract 0 n).toList = Lib.bytesOf (xs.take n) := by
  rw [Lib.toList_data, Lib.extract_data, Lib.bytesOf_take]
  rfl

/-- A mask leaves a number from 0 to the mask. -/
theorem and_range (x : Int) (m : Nat) (hm : m < 4611686018427387904) : 0 ≤ bits .and .i64 x (m : Int) ∧ bits .and .i64 x (m : Int) ≤ (m : Int) := by
  have h1 : (BitVec.ofInt IntKind.i64.bits x &&& BitVec.ofInt IntKind.i64.bits ((m : Nat) : Int)).toNat ≤ m := by
    rw [BitVec.toNat_and, BitVec.ofInt_natCast, BitVec.toNat_ofNat]
    refine Nat.le_trans Nat.and_le_right ?_
    exact Nat.mod_le _ _
  have h2 : bits .and .i64 x (m : Int) = IntKind.i64.wrap ((BitVec.ofInt IntKind.i64.bits x &&& BitVec.ofInt IntKind.i64.bits ((m : Nat) : Int)).toNat : Int) := rfl
  rw [h2, IntKind.wrap_i64]
  generalize (BitVec.ofInt IntKind.i64.bits x &&& BitVec.ofInt IntKind.i64.bits ((m : Nat) : Int)).toNat = q at h1
  omega

end Go.Proofs.Ytanepjclkciecaa.Base

/- UTF-8 in plain Lean: how a code point is written (put), which one begins a text (dec), and what these have to do with each other. No program stands here. -/
namespace Go.Proofs.Ytanepjclkciecaa.Utf
open Go.RowKit Go.Proofs.YtanepjclkciecaaW.PrintWords Go.Proofs.Ytanepjclkciecaa.Base

def isCp (r : Int) : Prop := 0 ≤ r ∧ r ≤ 1114111 ∧ (r < 55296 ∨ 57343 < r)
instance (r : Int) : Decidable (isCp r) := by unfold isCp; infer_instance
def enc (r : Int) : List Int :=
  if r < 128 then [r]
  else if r < 2048 then [192 + r / 64, 128 + r % 64]
  else if r < 65536 then [224 + r / 4096, 128 + r / 64 % 64, 128 + r % 64]
  else [240 + r / 262144, 128 + r / 4096 % 64, 128 + r / 64 % 64, 128 + r % 64]
def fix (r : Int) : Int := if isCp r then r else 65533
def put (r : Int) : List Int := enc (fix r)
def size (r : Int) : Int := if r < 128 then 1 else if r < 2048 then 2 else if r < 65536 then 3 else 4
def cont (c : Int) : Prop := 128 ≤ c ∧ c < 192
instance (c : Int) : Decidable (cont c) := by unfold cont; infer_instance
def bad : Int × Int × Bool := (65533, 1, false)
/-- What is made of the bits of n bytes. -/
def fin (r n : Int) : Int × Int × Bool := if isCp r ∧ size r = n then (r, n, true) else bad
/-- The code point that begins a text. -/
def dec : List Int → Int × Int × Bool
  | [] => (0, 0, false)
  | c :: t =>
    if c < 128 then (c, 1, true)
    else if 194 ≤ c ∧ c < 224 then
      match t with
      | d :: _ => if cont d then fin ((c - 192) * 64 + (d - 128)) 2 else bad
      | [] => bad
    else if 224 ≤ c ∧ c < 240 then
      match t with
      | d :: e :: _ => if cont d ∧ cont e then fin ((c - 224) * 4096 + (d - 128) * 64 + (e - 128)) 3 else bad
      | _ => bad
    else if 240 ≤ c ∧ c < 245 then
      match t with
      | d :: e :: f :: _ => if cont d ∧ cont e ∧ cont f then fin ((c - 240) * 262144 + (d - 128) * 4096 + (e - 128) * 64 + (f - 128)) 4 else bad
      | _ => bad
    else bad
/-- The code point that begins at a place. -/
def nx (l : List Int) (i : Int) : Int × Int × Bool := if i < 0 ∨ (l.length : Int) ≤ i then (0, 0, false) else dec (l.drop i.toNat)

theorem fix_cp (r : Int) : isCp (fix r) := by
  unfold fix
  split
  · assumption
  · decide
theorem fix_of {r : Int} (h : isCp r) : fix r = r := if_pos h
theorem enc_size {r : Int} : ((enc r).length : Int) = size r := by
  unfold enc size
  (repeat' split) <;> simp
theorem enc_bytes {r : Int} (h : isCp r) : Bytes (enc r) := by
  unfold isCp at h
  unfold enc
  (repeat' split) <;> (intro x hx; simp only [List.mem_cons, List.not_mem_nil, or_false] at hx)
  · omega
  · rcases hx with rfl | rfl <;> omega
  · rcases hx with rfl | rfl | rfl <;> omega
  · rcases hx with rfl | rfl | rfl | rfl <;> omega
theorem put_bytes (r : Int) : Bytes (put r) := enc_bytes (fix_cp r)
theorem put_size (r : Int) : ((put r).length : Int) = size (fix r) := enc_size
theorem size_range (r : Int) : 1 ≤ size r ∧ size r ≤ 4 := by
  unfold size
  (repeat' split) <;> omega
theorem put_length (r : Int) : 1 ≤ (put r).length ∧ (put r).length ≤ 4 := by
  have := put_size r
  have := size_range (fix r)
  omega
/-- What was written is read. -/
theorem dec_enc {r : Int} (h : isCp r) (t : List Int) : dec (enc r ++ t) = (r, size r, true) := by
  have h' := h
  unfold isCp at h'
  unfold enc size
  split
  · simp [dec, *]
  · split
    · have e1 : ¬ (192 + r / 64 < 128) := by omega
      have e2 : 194 ≤ 192 + r / 64 ∧ 192 + r / 64 < 224 := by omega
      have e3 : cont (128 + r % 64) := by unfold cont; omega
      have e4 : (192 + r / 64 - 192) * 64 + (128 + r % 64 - 128) = r := by omega
      simp only [List.cons_append, List.nil_append, dec, if_neg e1, if_pos e2, if_pos e3, e4]
      unfold fin
      rw [if_pos ⟨h, by unfold size; rw [if_neg (by omega), if_pos (by omega)]⟩]
    · split
      · have e1 : ¬ (224 + r / 4096 < 128) := by omega
        have e2 : ¬ (194 ≤ 224 + r / 4096 ∧ 224 + r / 4096 < 224) := by omega
        have e3 : 224 ≤ 224 + r / 4096 ∧ 224 + r / 4096 < 240 := by omega
        have e5 : cont (128 + r / 64 % 64) ∧ cont (128 + r % 64) := by unfold cont; omega
        have e4 : (224 + r / 4096 - 224) * 4096 + (128 + r / 64 % 64 - 128) * 64 + (128 + r % 64 - 128) = r := by omega
        simp only [List.cons_append, List.nil_append, dec, if_neg e1, if_neg e2, if_pos e3, if_pos e5, e4]
        unfold fin
        rw [if_pos ⟨h, by unfold size; rw [if_neg (by omega), if_neg (by omega), if_pos (by omega)]⟩]
      · have e1 : ¬ (240 + r / 262144 < 128) := by omega
        have e2 : ¬ (194 ≤ 240 + r / 262144 ∧ 240 + r / 262144 < 224) := by omega
        have e3 : ¬ (224 ≤ 240 + r / 262144 ∧ 240 + r / 262144 < 240) := by omega
        have e6 : 240 ≤ 240 + r / 262144 ∧ 240 + r / 262144 < 245 := by omega
        have e5 : cont (128 + r / 4096 % 64) ∧ cont (128 + r / 64 % 64) ∧ cont (128 + r % 64) := by unfold cont; omega
        have e4 : (240 + r / 262144 - 240) * 262144 + (128 + r / 4096 % 64 - 128) * 4096 + (128 + r / 64 % 64 - 128) * 64 + (128 + r % 64 - 128) = r := by omega
        simp only [List.cons_append, List.nil_append, dec, if_neg e1, if_neg e2, if_neg e3, if_pos e6, if_pos e5, e4]
        unfold fin
        rw [if_pos ⟨h, by unfold size; rw [if_neg (by omega), if_neg (by omega), if_neg (by omega)]⟩]
theorem dec_put (r : Int) (t : List Int) : dec (put r ++ t) = (fix r, size (fix r), true) := dec_enc (fix_cp r) t
/-- What is read well stands there as it is written. -/
theorem enc_dec {l : List Int} (hb : Bytes l) {r n : Int} (h : dec l = (r, n, true)) : isCp r ∧ n = size r ∧ ∃ t, l = enc r ++ t := by
  match l with
  | [] => simp [dec] at h
  | c :: t =>
    have hc := hb.head
    simp only [dec] at h
    split at h
    · simp only [Prod.mk.injEq] at h
      obtain ⟨rfl, rfl, _⟩ := h
      refine ⟨⟨by omega, by omega, by omega⟩, by simp [size, *], t, by simp [enc, *]⟩
    · split at h
      · match t with
        | [] => simp [bad] at h
        | d :: t =>
          simp only at h
          split at h
          · rename_i hd
            unfold cont at hd
            unfold fin at h
            split at h
            · rename_i hr
              simp only [Prod.mk.injEq] at h
              obtain ⟨rfl, rfl, _⟩ := h
              refine ⟨hr.1, hr.2.symm, t, ?_⟩
              unfold enc
              rw [if_neg (by omega), if_pos (by omega)]
              simp only [List.cons_append, List.nil_append, List.cons.injEq, and_true]
              omega
            · simp [bad] at h
          · simp [bad] at h
      · split at h
        · match t with
          | [] => simp [bad] at h
          | [_] => simp [bad] at h
          | d :: e :: t =>
            simp only at h
            split at h
            · rename_i hd
              unfold cont at hd
              unfold fin at h
              split at h
              · rename_i hr
                simp only [Prod.mk.injEq] at h
                obtain ⟨rfl, rfl, _⟩ := h
                refine ⟨hr.1, hr.2.symm, t, ?_⟩
                have hs := hr.2
                unfold size at hs
                unfold enc
                split at hs
                · omega
                · split at hs
                  · omega
                  · split at hs
                    · rw [if_neg (by omega), if_neg (by omega), if_pos (by omega)]
                      simp only [List.cons_append, List.nil_append, List.cons.injEq, and_true]
                      omega
                    · omega
              · simp [bad] at h
            · simp [bad] at h
        · split at h
          · match t with
            | [] => simp [bad] at h
            | [_] => simp [bad] at h
            | [_, _] => simp [bad] at h
            | d :: e :: f :: t =>
              simp only at h
              split at h
              · rename_i hd
                unfold cont at hd
                unfold fin at h
                split at h
                · rename_i hr
                  simp only [Prod.mk.injEq] at h
                  obtain ⟨rfl, rfl, _⟩ := h
                  refine ⟨hr.1, hr.2.symm, t, ?_⟩
                  have hs := hr.2
                  unfold size at hs
                  unfold enc
                  split at hs
                  · omega
                  · split at hs
                    · omega
                    · split at hs
                      · omega
                      · rw [if_neg (by omega), if_neg (by omega), if_neg (by omega)]
                        simp only [List.cons_append, List.nil_append, List.cons.injEq, and_true]
                        omega
                · simp [bad] at h
              · simp [bad] at h
          · simp [bad] at h
/-- How many bytes are read: at least one, of a text that isn't empty, and no more than there are. -/
theorem dec_len {l : List Int} (hb : Bytes l) (h : l ≠ []) : 1 ≤ (dec l).2.1 ∧ (dec l).2.1 ≤ (l.length : Int) ∧ (dec l).2.1 ≤ 4 := by
  rcases hd : dec l with ⟨r, n, ok⟩
  cases ok with
  | true =>
    obtain ⟨hr, rfl, t, rfl⟩ := enc_dec hb hd
    have := size_range r
    have := @enc_size r
    simp only [List.length_append]
    omega
  | false =>
    have : n = 1 := by
      match l with
      | [] => exact absurd rfl h
      | c :: t =>
        simp only [dec] at hd
        unfold fin bad at hd
        repeat' split at hd
        all_goals simp_all
    subst this
    cases l with
    | nil => exact absurd rfl h
    | cons c t => simp only [List.length_cons]; omega
theorem dec_false {l : List Int} (h : l ≠ []) (hd : (dec l).2.2 = false) : dec l = bad := by
  match l with
  | [] => exact absurd rfl h
  | c :: t =>
    have key : ∀ x, dec (c :: t) = x → x.2.2 = false → x = bad := by
      intro x hx hf
      simp only [dec, fin] at hx
      repeat' split at hx
      all_goals (subst hx; first | rfl | (simp at hf))
    exact key _ rfl hd
theorem dec_true_pos {l : List Int} (hd : (dec l).2.2 = true) : l ≠ [] := by
  rintro rfl
  simp [dec] at hd
theorem nx_at (a t : List Int) : nx (a ++ t) (a.length : Int) = dec t := by
  unfold nx
  cases t with
  | nil => rw [if_pos (by right; simp)]; rfl
  | cons c t => rw [if_neg (by simp; omega)]; simp
theorem nx_out {l : List Int} {i : Int} (h : i < 0 ∨ (l.length : Int) ≤ i) : nx l i = (0, 0, false) := if_pos h

/-- Texts of code points. -/
def encAll (l : List Int) : List Int := l.flatMap enc
theorem encAll_nil : encAll [] = [] := rfl
theorem encAll_cons (r : Int) (l : List Int) : encAll (r :: l) = enc r ++ encAll l := rfl
theorem encAll_append (a b : List Int) : encAll (a ++ b) = encAll a ++ encAll b := by simp [encAll]
/-- Each text is code points, then nothing or what is wrong. -/
theorem parts (l : List Int) (hb : Bytes l) : ∃ rs t, l = encAll rs ++ t ∧ (∀ r ∈ rs, isCp r) ∧ (dec t).2.2 = false := by
  have key : ∀ n : Nat, ∀ l : List Int, l.length ≤ n → Bytes l → ∃ rs t, l = encAll rs ++ t ∧ (∀ r ∈ rs, isCp r) ∧ (dec t).2.2 = false := by
    intro n
    induction n with
    | zero =>
      intro l hn hb
      have : l = [] := List.length_eq_zero_iff.1 (by omega)
      subst this
      exact ⟨[], [], rfl, fun _ h => by simp at h, rfl⟩
    | succ n ih =>
      intro l hn hb
      rcases hd : dec l with ⟨r, m, ok⟩
      cases ok with
      | false => exact ⟨[], l, rfl, fun _ h => by simp at h, by rw [hd]⟩
      | true =>
        obtain ⟨hr, rfl, t, rfl⟩ := enc_dec hb hd
        have h1 := @enc_size r
        have h2 := size_range r
        obtain ⟨rs, u, rfl, hrs, hu⟩ := ih t (by simp only [List.length_append] at hn; omega) hb.right
        refine ⟨r :: rs, u, by rw [encAll_cons, List.append_assoc], ?_, hu⟩
        intro x hx
        rcases List.mem_cons.1 hx with rfl | h
        · exact hr
        · exact hrs x h
  exact key l.length l (Nat.le_refl _) hb

theorem encAll_bytes {rs : List Int} (h : ∀ r ∈ rs, isCp r) : Bytes (encAll rs) := by
  induction rs with
  | nil => exact Bytes.nil
  | cons r rs ih =>
    rw [encAll_cons]
    exact (enc_bytes (h r (by simp))).append (ih fun x hx => h x (by simp [hx]))
/-- No beginning of what is written for a code point is one, but the whole. -/
theorem dec_part {r : Int} (hr : isCp r) {j : Nat} (hj : j < (enc r).length) : (dec ((enc r).take j)).2.2 = false := by
  rcases hd : dec ((enc r).take j) with ⟨r', n, ok⟩
  cases ok with
  | false => rfl
  | true =>
    obtain ⟨hr', rfl, t, ht⟩ := enc_dec ((enc_bytes hr).take j) hd
    have h1 := dec_enc hr []
    rw [List.append_nil, ← List.take_append_drop j (enc r), ht, List.append_assoc, dec_enc hr'] at h1
    have h2 : size r' = size r := by
      simp only [Prod.mk.injEq] at h1
      exact h1.2.1
    have h3 := congrArg List.length ht
    simp only [List.length_append, List.length_take] at h3
    have h4 := @enc_size r
    have h5 := @enc_size r'
    omega
theorem enc_inj {r s : Int} (hr : isCp r) (hs : isCp s) (h : enc r = enc s) : r = s := by
  have h1 := dec_enc hr []
  rw [h, dec_enc hs []] at h1
  simp only [Prod.mk.injEq] at h1
  exact h1.1.symm

/-- A text is code points and what is wrong in one way alone. -/
theorem parts_unique {rb rc tb tc : List Int} (h1 : ∀ x ∈ rb, isCp x) (h2 : ∀ x ∈ rc, isCp x) (h3 : (dec tb).2.2 = false) (h4 : (dec tc).2.2 = false) (h5 : encAll rb ++ tb = encAll rc ++ tc) : rb = rc ∧ tb = tc := by
  induction rb generalizing rc with
  | nil =>
    cases rc with
    | nil => exact ⟨rfl, h5⟩
    | cons r rc =>
      rw [encAll_nil, List.nil_append, encAll_cons, List.append_assoc] at h5
      rw [h5, dec_enc (h2 r (by simp))] at h3
      exact absurd h3 (by simp)
  | cons r rb ih =>
    cases rc with
    | nil =>
      rw [encAll_nil, List.nil_append, encAll_cons, List.append_assoc] at h5
      rw [← h5, dec_enc (h1 r (by simp))] at h4
      exact absurd h4 (by simp)
    | cons s rc =>
      rw [encAll_cons, encAll_cons, List.append_assoc, List.append_assoc] at h5
      have h6 := dec_enc (h1 r (by simp)) (encAll rb ++ tb)
      rw [h5, dec_enc (h2 s (by simp))] at h6
      simp only [Prod.mk.injEq] at h6
      obtain ⟨rfl, -, -⟩ := h6
      obtain ⟨h7, h8⟩ := ih (fun x hx => h1 x (by simp [hx])) (fun x hx => h2 x (by simp [hx])) (List.append_cancel_left h5)
      exact ⟨by rw [h7], h8⟩

end Go.Proofs.Ytanepjclkciecaa.Utf

/- The functions of the package utf, as they are printed in plain Lean, answer as the model Utf says. -/
namespace Go.Proofs.Ytanepjclkciecaa.UtfEq
open Go.RowKit Go.Proofs.YtanepjclkciecaaW.PrintWords Go.Proofs.Ytanepjclkciecaa.Base Go.Proofs.Ytanepjclkciecaa.Utf Go.Proofs.Ytanepjclkciecaa.Q

theorem right_eq (r : Int) : utf_right.f r = some (decide (isCp r)) := by
  by_cases h : isCp r
  · rw [decide_eq_true h]
    unfold isCp at h
    unfold utf_right.f
    repeat' split
    all_goals first | rfl | omega | (rw [decide_eq_true (by omega)])
  · rw [decide_eq_false h]
    unfold isCp at h
    unfold utf_right.f
    repeat' split
    all_goals first | rfl | omega | (rw [decide_eq_false (by omega)])
theorem size_eq (r : Int) : utf_size.f r = some (size r) := by
  unfold utf_size.f size
  (repeat' split) <;> rfl

theorem wraps_i64 (n : Int) (h0 : 0 ≤ n) (h1 : n < 2 ^ 31) : IntKind.i64.wrap n = n := by rw [IntKind.wrap_i64]; omega
theorem i64_and63 {x : Int} (h0 : 0 ≤ x) (h1 : x < 2147483648) : bits .and .i64 x 63 = x % 64 :=
  bits_mask .i64 31 (by decide) wraps_i64 6 (by decide) x h0 h1
theorem i64_or128 {y : Int} (h0 : 0 ≤ y) (h1 : y < 64) : bits .or .i64 128 y = 128 + y :=
  bits_join .i64 31 (by decide) wraps_i64 6 128 y (by decide) (by decide) (by decide) h0 h1 (by omega)
theorem i64_or192 {y : Int} (h0 : 0 ≤ y) (h1 : y < 32) : bits .or .i64 192 y = 192 + y :=
  bits_join .i64 31 (by decide) wraps_i64 6 192 y (by decide) (by decide) (by decide) h0 (by omega) (by omega)
theorem i64_or224 {y : Int} (h0 : 0 ≤ y) (h1 : y < 16) : bits .or .i64 224 y = 224 + y :=
  bits_join .i64 31 (by decide) wraps_i64 5 224 y (by decide) (by decide) (by decide) h0 (by omega) (by omega)
theorem i64_or240 {y : Int} (h0 : 0 ≤ y) (h1 : y < 16) : bits .or .i64 240 y = 240 + y :=
  bits_join .i64 31 (by decide) wraps_i64 4 240 y (by decide) (by decide) (by decide) h0 (by omega) (by omega)
theorem i64_or6 {x y : Int} (hx : 0 ≤ x) (hx1 : x < 33554432) (h0 : 0 ≤ y) (h1 : y < 64) : bits .or .i64 (x * 64) y = x * 64 + y :=
  bits_join .i64 31 (by decide) wraps_i64 6 (x * 64) y (by omega) (by omega) (by omega) h0 h1 (by omega)
theorem andNot_cont {c : Int} (h0 : 0 ≤ c) (h1 : c < 256) : bits .andNot .u8 c 63 = 128 ↔ cont c := by
  have key : ∀ n : Fin 256, (bits .andNot .u8 ((n.val : Nat) : Int) 63 = 128) ↔ cont ((n.val : Nat) : Int) := by decide +kernel
  obtain ⟨n, rfl⟩ := Int.eq_ofNat_of_zero_le h0
  exact key ⟨n, by omega⟩
theorem and_cont {c : Int} (h0 : 0 ≤ c) (h1 : c < 256) : bits .and .u8 c 192 = 128 ↔ cont c := by
  have key : ∀ n : Fin 256, (bits .and .u8 ((n.val : Nat) : Int) 192 = 128) ↔ cont ((n.val : Nat) : Int) := by decide +kernel
  obtain ⟨n, rfl⟩ := Int.eq_ofNat_of_zero_le h0
  exact key ⟨n, by omega⟩

/-- The bytes that the code writes are those of the model. -/
theorem bytes2 {r : Int} (h : isCp r) (h1 : 128 ≤ r) (h2 : r < 2048) : [(bits .or .i64 192 (r / 64)) % 256, (bits .or .i64 128 (bits .and .i64 r 63)) % 256] = enc r := by
  unfold isCp at h
  rw [i64_and63 (by omega) (by omega), i64_or192 (by omega) (by omega), i64_or128 (by omega) (by omega)]
  unfold enc
  rw [if_neg (by omega), if_pos (by omega), Int.emod_eq_of_lt (by omega) (by omega), Int.emod_eq_of_lt (by omega) (by omega)]
theorem bytes3 {r : Int} (h : isCp r) (h1 : 2048 ≤ r) (h2 : r < 65536) : [(bits .or .i64 224 (r / 4096)) % 256, (bits .or .i64 128 (bits .and .i64 (r / 64) 63)) % 256, (bits .or .i64 128 (bits .and .i64 r 63)) % 256] = enc r := by
  unfold isCp at h
  rw [i64_and63 (x := r) (by omega) (by omega), i64_and63 (x := r / 64) (by omega) (by omega), i64_or224 (by omega) (by omega), i64_or128 (y := r / 64 % 64) (by omega) (by omega), i64_or128 (y := r % 64) (by omega) (by omega)]
  unfold enc
  rw [if_neg (by omega), if_neg (by omega), if_pos (by omega), Int.emod_eq_of_lt (a := 224 + r / 4096) (by omega) (by omega), Int.emod_eq_of_lt (a := 128 + r / 64 % 64) (by omega) (by omega), Int.emod_eq_of_lt (a := 128 + r % 64) (by omega) (by omega)]
theorem bytes4 {r : Int} (h : isCp r) (h1 : 65536 ≤ r) : [(bits .or .i64 240 (r / 262144)) % 256, (bits .or .i64 128 (bits .and .i64 (r / 4096) 63)) % 256, (bits .or .i64 128 (bits .and .i64 (r / 64) 63)) % 256, (bits .or .i64 128 (bits .and .i64 r 63)) % 256] = enc r := by
  unfold isCp at h
  rw [i64_and63 (x := r) (by omega) (by omega), i64_and63 (x := r / 64) (by omega) (by omega), i64_and63 (x := r / 4096) (by omega) (by omega), i64_or240 (by omega) (by omega), i64_or128 (y := r / 4096 % 64) (by omega) (by omega), i64_or128 (y := r / 64 % 64) (by omega) (by omega), i64_or128 (y := r % 64) (by omega) (by omega)]
  unfold enc
  rw [if_neg (by omega), if_neg (by omega), if_neg (by omega), Int.emod_eq_of_lt (a := 240 + r / 262144) (by omega) (by omega), Int.emod_eq_of_lt (a := 128 + r / 4096 % 64) (by omega) (by omega), Int.emod_eq_of_lt (a := 128 + r / 64 % 64) (by omega) (by omega), Int.emod_eq_of_lt (a := 128 + r % 64) (by omega) (by omega)]
theorem bytes1 {r : Int} (h : isCp r) (h1 : r < 128) : [r % 256] = enc r := by
  unfold isCp at h
  unfold enc
  rw [if_pos h1, Int.emod_eq_of_lt (by omega) (by omega)]
theorem enc_len {r : Int} : (enc r).length ≤ 4 := by
  have := @enc_size r
  have := size_range r
  omega

theorem put_j0 {l : List Int} {r : Int} (h : isCp r) (hl : l.length < 140737488355000) : Evt (fun k => utf_Put.j0 k l r) (l ++ enc r) := by
  apply Evt.succ
  have h' := h
  unfold isCp at h'
  simp only [utf_Put.j0, List.length_nil, Nat.zero_add, List.nil_append, Option.bind_some, size_eq]
  rw [if_pos (by omega)]
  unfold size
  split
  · rw [if_pos rfl, if_pos (by omega), bytes1 h (by assumption)]; exact Evt.const _
  · split
    · simp only [show ¬ ((2 : Int) = 1) by decide, if_false, if_true]
      rw [if_pos (by simp only [List.length_cons, List.length_nil]; omega), bytes2 h (by omega) (by omega)]; exact Evt.const _
    · split
      · simp only [show ¬ ((3 : Int) = 1) by decide, show ¬ ((3 : Int) = 2) by decide, if_false, if_true]
        rw [if_pos (by simp only [List.length_cons, List.length_nil]; omega), bytes3 h (by omega) (by omega)]; exact Evt.const _
      · simp only [show ¬ ((4 : Int) = 1) by decide, show ¬ ((4 : Int) = 2) by decide, show ¬ ((4 : Int) = 3) by decide, if_false]
        rw [if_pos (by simp only [List.length_cons, List.length_nil]; omega), bytes4 h (by omega)]; exact Evt.const _
theorem put_ev (l : List Int) (r : Int) (hl : l.length < 140737488355000) : Evt (fun k => utf_Put.f k l r) (l ++ put r) := by
  simp only [utf_Put.f, right_eq, Option.bind_some, decide_eq_true_iff]
  unfold put fix
  split
  · exact put_j0 (by assumption) hl
  · exact put_j0 (by decide) hl

/-- What the first byte tells. -/
def lead (c : Int) : Int × Int := if c < 128 then (1, c) else if 194 ≤ c ∧ c < 224 then (2, c - 192) else if 224 ≤ c ∧ c < 240 then (3, c - 224) else if 240 ≤ c ∧ c < 245 then (4, c - 240) else (0, 0)
theorem lead_ev (c : Int) (h0 : 0 ≤ c) (h1 : c < 256) : Evt (fun k => utf_lead.f k c) (lead c) := by
  have e31 := u8_and31 c h0 h1
  have e15 := u8_and15 c h0 h1
  have e7 := u8_and7 c h0 h1
  simp only [utf_lead.f]
  by_cases c1 : c < 128
  · refine Evt.pos c1 ?_
    rw [wrap64_in (by omega) (by omega), lead, if_pos c1]; exact Evt.const _
  refine Evt.neg c1 ?_
  by_cases c2 : c < 194
  · refine Evt.neg (by omega) ?_
    refine Evt.succ ?_
    simp only [utf_lead.j0, Bool.false_eq_true, if_false]
    refine Evt.neg (by omega) ?_
    refine Evt.succ ?_
    simp only [utf_lead.j1, Bool.false_eq_true, if_false]
    refine Evt.neg (by omega) ?_
    rw [lead, if_neg c1, if_neg (by omega), if_neg (by omega), if_neg (by omega)]; exact Evt.const _
  refine Evt.pos (by omega) ?_
  refine Evt.succ ?_
  simp only [utf_lead.j0, decide_eq_true_iff]
  by_cases c3 : c < 224
  · refine Evt.pos c3 ?_
    rw [e31, wrap64_in (by omega) (by omega), show c % 32 = c - 192 by omega, lead, if_neg c1, if_pos (by omega)]; exact Evt.const _
  refine Evt.neg c3 ?_
  refine Evt.pos (by omega) ?_
  refine Evt.succ ?_
  simp only [utf_lead.j1, decide_eq_true_iff]
  by_cases c4 : c < 240
  · refine Evt.pos c4 ?_
    rw [e15, wrap64_in (by omega) (by omega), show c % 16 = c - 224 by omega, lead, if_neg c1, if_neg (by omega), if_pos (by omega)]; exact Evt.const _
  refine Evt.neg c4 ?_
  refine Evt.pos (by omega) ?_
  by_cases c5 : c < 245
  · refine Evt.pos c5 ?_
    rw [e7, wrap64_in (by omega) (by omega), show c % 8 = c - 240 by omega, lead, if_neg c1, if_neg (by omega), if_neg (by omega), if_pos (by omega)]; exact Evt.const _
  refine Evt.neg c5 ?_
  rw [lead, if_neg c1, if_neg (by omega), if_neg (by omega), if_neg (by omega)]; exact Evt.const _

/-- One more byte of a code point. -/
theorem l0_step {n x : Int} {l : List Int} {i : Int} {c : Int} {R : Int × Int × Bool} (hi0 : 0 ≤ i) (hi1 : i < (l.length : Int)) (hn : (l.length : Int) ≤ 3) (hc : rd l i = c) (hc0 : 0 ≤ c) (hc1 : c < 256) (hx0 : 0 ≤ x) (hx1 : x < 33554432)
    (h : cont c → Evt (fun k => utf_Next.l0 k n (x * 64 + (c - 128)) l (l.length : Int) (i + 1)) R) (hb : ¬ cont c → R = bad) : Evt (fun k => utf_Next.l0 k n x l (l.length : Int) i) R := by
  refine Evt.succ ?_
  simp only [utf_Next.l0, hc]
  refine Evt.pos hi1 (Evt.pos hi0 (Evt.pos hi1 ?_))
  by_cases hk : cont c
  · have hk' := hk
    unfold cont at hk'
    refine Evt.pos ((andNot_cont hc0 hc1).2 hk) ?_
    simp only [u8_and63 c hc0 hc1]
    rw [wrap64_in (n := x * 64) (by omega) (by omega), wrap64_in (n := c % 64) (by omega) (by omega), wrap64_in (n := i + 1) (by omega) (by omega), i64_or6 hx0 hx1 (by omega) (by omega), show c % 64 = c - 128 by omega]
    exact h hk
  · refine Evt.neg (fun h2 => hk ((andNot_cont hc0 hc1).1 h2)) ?_
    rw [hb hk]
    exact Evt.const _
theorem l0_end {n x : Int} {l : List Int} : Evt (fun k => utf_Next.l0 k n x l (l.length : Int) (l.length : Int)) (fin x n) := by
  refine Evt.succ ?_
  simp only [utf_Next.l0, right_eq, size_eq, Option.bind_some]
  refine Evt.neg (by omega) ?_
  unfold fin bad
  by_cases h : isCp x
  · rw [decide_eq_true h, if_pos rfl]
    by_cases h2 : size x = n
    · rw [if_pos h2, if_pos ⟨h, h2⟩]; exact Evt.const _
    · rw [if_neg h2, if_neg (fun h => h2 h.2)]; exact Evt.const _
  · rw [decide_eq_false h, if_neg (by simp), if_neg (fun h2 => h h2.1)]; exact Evt.const _

theorem cut_at (a : List Int) (c : Int) (t : List Int) (n : Nat) : ((a ++ c :: t).take (a.length + (n + 1))).drop (a.length + 1) = t.take n := by
  rw [List.take_length_add_append, List.drop_length_add_append]
  rfl
theorem toNat_add (a : List Int) (n : Nat) : ((a.length : Int) + (n : Int)).toNat = a.length + n := by omega

/-- utf.Next, at a place where a byte stands. -/
theorem next_at (a : List Int) (c : Int) (t : List Int) (hb : Bytes (c :: t)) (hl : ((a ++ c :: t).length : Int) ≤ 140737488355328) : Evt (fun k => utf_Next.f k (a ++ c :: t) (a.length : Int)) (dec (c :: t)) := by
  have hc := hb.head
  have ht := hb.tail
  simp only [List.length_append, List.length_cons] at hl
  simp only [utf_Next.f]
  refine Evt.neg (by omega) ?_
  simp only [List.length_append, List.length_cons]
  rw [decide_eq_false (by omega)]
  refine Evt.succ ?_
  simp only [utf_Next.j0, Bool.false_eq_true, if_false, rd_append, List.length_append, List.length_cons]
  refine Evt.pos (by omega) (Evt.pos (by omega) (Evt.bind (lead_ev c hc.1 hc.2) ?_))
  rw [wrap64_in (n := ((a.length + (t.length + 1) : Nat) : Int) - (a.length : Int)) (by omega) (by omega)]
  -- the number of bytes that are wanted, and whether they are there
  have cut : ∀ n : Nat, n ≤ 3 → n ≤ t.length → ∀ x : Int, ∀ R, Evt (fun k => utf_Next.l0 k ((n : Int) + 1) x (t.take n) (n : Int) 0) R → ∀ b : Bool, b = false → Evt (fun k => utf_Next.j1 k (a ++ c :: t) (a.length : Int) ((n : Int) + 1) x b) R := by
    intro n hn hn2 x R h b hbf
    subst hbf
    refine Evt.succ ?_
    simp only [utf_Next.j1, Bool.false_eq_true, if_false, List.length_append, List.length_cons]
    rw [wrap64_in (n := (a.length : Int) + 1) (by omega) (by omega), wrap64_in (n := (a.length : Int) + ((n : Int) + 1)) (by omega) (by omega)]
    refine Evt.pos (by omega) (Evt.pos (by omega) (Evt.pos (by omega) ?_))
    rw [show ((a.length : Int) + ((n : Int) + 1)).toNat = a.length + (n + 1) by omega, show ((a.length : Int) + 1).toNat = a.length + 1 by omega, cut_at]
    simp only [Option.bind_some, List.length_take]
    rw [Nat.min_eq_left hn2]
    exact h
  have few : ∀ n x : Int, ∀ b : Bool, b = true → Evt (fun k => utf_Next.j1 k (a ++ c :: t) (a.length : Int) n x b) bad := by
    intro n x b hbt
    subst hbt
    refine Evt.succ ?_
    simp only [utf_Next.j1, if_true]
    exact Evt.const _
  simp only [dec]
  unfold lead
  by_cases c1 : c < 128
  · simp only [if_pos c1]
    refine Evt.neg (by omega) ?_
    refine cut 0 (by omega) (by omega) c _ ?_ _ (decide_eq_false (by omega))
    have := @l0_end 1 c []
    simp only [fin, size, if_pos c1] at this
    rw [if_pos ⟨by unfold isCp; omega, trivial⟩] at this
    exact this
  simp only [if_neg c1]
  by_cases c2 : 194 ≤ c ∧ c < 224
  · simp only [if_pos c2]
    refine Evt.neg (by omega) ?_
    rcases t with _ | ⟨d, t⟩
    · exact few _ _ _ (decide_eq_true (by simp; omega))
    · skip
      have hd := ht.head
      simp only [List.length_cons] at hl
      refine cut 1 (by omega) (by simp) (c - 192) _ ?_ _ (decide_eq_false (by simp only [List.length_cons]; omega))
      have h1 : rd [d] 0 = d := rfl
      simp only [List.take_succ_cons, List.take_zero]
      refine l0_step (l := [d]) (c := d) (by omega) (by simp) (by simp) h1 hd.1 hd.2 (by omega) (by omega) (fun hk => ?_) (fun hk => if_neg hk)
      rw [if_pos hk]
      exact @l0_end 2 _ [d]
  simp only [if_neg c2]
  by_cases c3 : 224 ≤ c ∧ c < 240
  · simp only [if_pos c3]
    refine Evt.neg (by omega) ?_
    rcases t with _ | ⟨d, _ | ⟨e, t⟩⟩
    · exact few _ _ _ (decide_eq_true (by simp; omega))
    · exact few _ _ _ (decide_eq_true (by simp; omega))
    · skip
      have hd := ht.head
      have he := ht.tail.head
      simp only [List.length_cons] at hl
      refine cut 2 (by omega) (by simp) (c - 224) _ ?_ _ (decide_eq_false (by simp only [List.length_cons]; omega))
      simp only [List.take_succ_cons, List.take_zero]
      refine l0_step (l := [d, e]) (c := d) (by omega) (by simp) (by simp) rfl hd.1 hd.2 (by omega) (by omega) (fun hk => ?_) (fun hk => if_neg (fun h => hk h.1))
      have hk' := hk
      unfold cont at hk'
      refine l0_step (l := [d, e]) (c := e) (by omega) (by simp) (by simp) rfl he.1 he.2 (by omega) (by omega) (fun hk2 => ?_) (fun hk2 => if_neg (fun h => hk2 h.2))
      rw [if_pos ⟨hk, hk2⟩, show (c - 224) * 4096 + (d - 128) * 64 + (e - 128) = ((c - 224) * 64 + (d - 128)) * 64 + (e - 128) by omega]
      exact @l0_end 3 _ [d, e]
  simp only [if_neg c3]
  by_cases c4 : 240 ≤ c ∧ c < 245
  · simp only [if_pos c4]
    refine Evt.neg (by omega) ?_
    rcases t with _ | ⟨d, _ | ⟨e, _ | ⟨f, t⟩⟩⟩
    · exact few _ _ _ (decide_eq_true (by simp; omega))
    · exact few _ _ _ (decide_eq_true (by simp; omega))
    · exact few _ _ _ (decide_eq_true (by simp; omega))
    · skip
      have hd := ht.head
      have he := ht.tail.head
      have hf := ht.tail.tail.head
      simp only [List.length_cons] at hl
      refine cut 3 (by omega) (by simp) (c - 240) _ ?_ _ (decide_eq_false (by simp only [List.length_cons]; omega))
      simp only [List.take_succ_cons, List.take_zero]
      refine l0_step (l := [d, e, f]) (c := d) (by omega) (by simp) (by simp) rfl hd.1 hd.2 (by omega) (by omega) (fun hk => ?_) (fun hk => if_neg (fun h => hk h.1))
      have hk' := hk
      unfold cont at hk'
      refine l0_step (l := [d, e, f]) (c := e) (by omega) (by simp) (by simp) rfl he.1 he.2 (by omega) (by omega) (fun hk2 => ?_) (fun hk2 => if_neg (fun h => hk2 h.2.1))
      have hk2' := hk2
      unfold cont at hk2'
      refine l0_step (l := [d, e, f]) (c := f) (by omega) (by simp) (by simp) rfl hf.1 hf.2 (by omega) (by omega) (fun hk3 => ?_) (fun hk3 => if_neg (fun h => hk3 h.2.2))
      rw [if_pos ⟨hk, hk2, hk3⟩, show (c - 240) * 262144 + (d - 128) * 4096 + (e - 128) * 64 + (f - 128) = (((c - 240) * 64 + (d - 128)) * 64 + (e - 128)) * 64 + (f - 128) by omega]
      exact @l0_end 4 _ [d, e, f]
  simp only [if_neg c4]
  exact Evt.pos trivial (few _ _ _ rfl)

/-- utf.Next answers as the model. -/
theorem next_ev (l : List Int) (hb : Bytes l) (hl : (l.length : Int) ≤ 140737488355328) (i : Int) : Evt (fun k => utf_Next.f k l i) (nx l i) := by
  by_cases h0 : i < 0
  · rw [nx_out (Or.inl h0)]
    simp only [utf_Next.f]
    refine Evt.pos h0 (Evt.succ ?_)
    simp only [utf_Next.j0, if_true]
    exact Evt.const _
  by_cases h1 : (l.length : Int) ≤ i
  · rw [nx_out (Or.inr h1)]
    simp only [utf_Next.f]
    refine Evt.neg h0 ?_
    rw [decide_eq_true (by omega)]
    refine Evt.succ ?_
    simp only [utf_Next.j0, if_true]
    exact Evt.const _
  obtain ⟨a, c, t, rfl, rfl⟩ := split_at (l := l) (i := i) (by omega) (by omega)
  rw [nx_at]
  exact next_at a c t hb.right hl


end Go.Proofs.Ytanepjclkciecaa.UtfEq

/- utf.Text, as it is printed in plain Lean: what is written for each code point, one behind the other. -/
namespace Go.Proofs.Ytanepjclkciecaa.TextEq
open Go.RowKit Go.Proofs.YtanepjclkciecaaW.PrintWords Go.Proofs.Ytanepjclkciecaa.Base Go.Proofs.Ytanepjclkciecaa.Utf Go.Proofs.Ytanepjclkciecaa.UtfEq Go.Proofs.Ytanepjclkciecaa.Q

def puts (rs : List Int) : List Int := rs.flatMap put
theorem puts_cons (r : Int) (rs : List Int) : puts (r :: rs) = put r ++ puts rs := rfl
theorem puts_append (a b : List Int) : puts (a ++ b) = puts a ++ puts b := by simp [puts]
theorem puts_bytes (rs : List Int) : Bytes (puts rs) := by
  induction rs with
  | nil => exact Bytes.nil
  | cons r rs ih => rw [puts_cons]; exact (put_bytes r).append ih
theorem puts_length (rs : List Int) : (puts rs).length ≤ 4 * rs.length := by
  induction rs with
  | nil => simp [puts]
  | cons r rs ih =>
    rw [puts_cons, List.length_append, List.length_cons]
    have := put_length r
    omega
theorem puts_enc {rs : List Int} (h : ∀ r ∈ rs, isCp r) : puts rs = encAll rs := by
  induction rs with
  | nil => rfl
  | cons r rs ih =>
    rw [puts_cons, encAll_cons, ih (fun x hx => h x (by simp [hx]))]
    unfold put
    rw [fix_of (h r (by simp))]
theorem text_l0 (rs : List Int) (hl : rs.length ≤ 1000000000) (d : Nat) : ∀ (i : Nat) (acc : List Int), i + d = rs.length → acc.length ≤ 4 * i →
    Evt (fun k => utf_Text.l0 k acc rs (rs.length : Int) (i : Int)) (strOfNums (acc ++ puts (rs.drop i))) := by
  induction d with
  | zero =>
    intro i acc hi _
    refine Evt.succ ?_
    simp only [utf_Text.l0]
    refine Evt.neg (by omega) ?_
    rw [List.drop_of_length_le (by omega)]
    simp only [puts, List.flatMap_nil, List.append_nil]
    exact Evt.const _
  | succ d ih =>
    intro i acc hi ha
    have hlt : i < rs.length := by omega
    have hr : rd rs (i : Int) = rs[i] := by simp [rd, List.getD_eq_getElem?_getD, hlt]
    have hd : rs.drop i = rs[i] :: rs.drop (i + 1) := List.drop_eq_getElem_cons hlt
    have hp := put_length rs[i]
    have hn := ih (i + 1) (acc ++ put rs[i]) (by omega) (by rw [List.length_append]; omega)
    rw [List.append_assoc, ← puts_cons, ← hd, show ((i + 1 : Nat) : Int) = (i : Int) + 1 by omega] at hn
    have hput := put_ev [] rs[i] (by decide)
    rw [List.nil_append] at hput
    have way : Evt (fun k => (utf_Put.f k ([] : List Int) rs[i]).bind fun t => if acc.length + t.length < 140737488355328 then utf_Text.l0 k (acc ++ t) rs (rs.length : Int) ((i : Int) + 1) else none) (strOfNums (acc ++ puts (rs.drop i))) :=
      Evt.bind hput (Evt.pos (by omega) hn)
    refine Evt.succ ?_
    simp only [utf_Text.l0, hr, right_eq, Option.bind_some]
    rw [wrap64_in (n := (i : Int) + 1) (by omega) (by omega)]
    refine Evt.pos (by omega) (Evt.pos (by omega) (Evt.pos (by omega) ?_))
    by_cases hcp : isCp rs[i]
    · rw [decide_eq_true hcp]
      refine Evt.pos rfl ?_
      by_cases h128 : rs[i] < 128
      · refine Evt.pos h128 (Evt.pos (by omega) ?_)
        rw [bytes1 hcp h128]
        unfold put at hn
        rw [fix_of hcp] at hn
        exact hn
      · exact Evt.neg h128 way
    · rw [decide_eq_false hcp]
      exact Evt.neg (by decide) way
theorem text_ev (rs : List Int) (hl : rs.length ≤ 1000000000) : Evt (fun k => utf_Text.f k rs) (strOfNums (puts rs)) := by
  simp only [utf_Text.f]
  have := text_l0 rs hl rs.length 0 [] (by omega) (by simp)
  simpa using this
end Go.Proofs.Ytanepjclkciecaa.TextEq

/- The reference's functions for UTF-8, as they are printed in plain Lean, answer as the model Utf says. -/
namespace Go.Proofs.Ytanepjclkciecaa.RefEq
open Go.RowKit Go.Proofs.YtanepjclkciecaaW.PrintWords Go.Proofs.Ytanepjclkciecaa.Base Go.Proofs.Ytanepjclkciecaa.Utf Go.Proofs.Ytanepjclkciecaa.UtfEq Go.Proofs.Ytanepjclkciecaa.Q

theorem ref_put_j1 {l : List Int} {r : Int} (h : isCp r) (hl : l.length < 140737488355000) : Evt (fun k => abridgerref1_Put.j1 k l r) (l ++ enc r) := by
  apply Evt.succ
  have h' := h
  unfold isCp at h'
  simp only [abridgerref1_Put.j1, Option.bind_some]
  by_cases c1 : r < 128
  · rw [if_pos c1, if_pos (by omega), bytes1 h c1]; exact Evt.const _
  rw [if_neg c1]
  by_cases c2 : r < 2048
  · rw [if_pos c2, if_pos (by simp only [List.length_cons, List.length_nil]; omega), bytes2 h (by omega) (by omega)]; exact Evt.const _
  rw [if_neg c2]
  by_cases c3 : r < 65536
  · rw [if_pos c3, if_pos (by simp only [List.length_cons, List.length_nil]; omega), bytes3 h (by omega) (by omega)]; exact Evt.const _
  rw [if_neg c3, if_pos (by simp only [List.length_cons, List.length_nil]; omega), bytes4 h (by omega)]; exact Evt.const _
theorem ref_put_ev (l : List Int) (r : Int) (hl : l.length < 140737488355000) : Evt (fun k => abridgerref1_Put.f k l r) (l ++ put r) := by
  have hbad : ¬ isCp r → Evt (fun k => abridgerref1_Put.j0 k l r true) (l ++ put r) := by
    intro h
    refine Evt.succ ?_
    simp only [abridgerref1_Put.j0, if_true]
    unfold put fix
    rw [if_neg h]
    exact ref_put_j1 (by decide) hl
  have hgood : isCp r → Evt (fun k => abridgerref1_Put.j0 k l r false) (l ++ put r) := by
    intro h
    refine Evt.succ ?_
    simp only [abridgerref1_Put.j0, Bool.false_eq_true, if_false]
    unfold put fix
    rw [if_pos h]
    exact ref_put_j1 h hl
  simp only [abridgerref1_Put.f]
  by_cases h1 : r < 0
  · exact Evt.pos h1 (hbad (by unfold isCp; omega))
  refine Evt.neg h1 ?_
  by_cases h2 : r > 1114111
  · exact Evt.pos h2 (hbad (by unfold isCp; omega))
  refine Evt.neg h2 ?_
  by_cases h3 : r ≥ 55296
  · refine Evt.pos h3 ?_
    by_cases h4 : r < 57344
    · rw [decide_eq_true h4]
      exact hbad (by unfold isCp; omega)
    · rw [decide_eq_false h4]
      exact hgood (by unfold isCp; omega)
  · exact Evt.neg h3 (hgood (by unfold isCp; omega))
theorem rmask (c : Int) (h0 : 0 ≤ c) (h1 : c < 256) : bits .and .i64 c 31 = c % 32 ∧ bits .and .i64 c 15 = c % 16 ∧ bits .and .i64 c 7 = c % 8 :=
  ⟨bits_mask .i64 31 (by decide) wraps_i64 5 (by decide) c h0 (by omega), bits_mask .i64 31 (by decide) wraps_i64 4 (by decide) c h0 (by omega), bits_mask .i64 31 (by decide) wraps_i64 3 (by decide) c h0 (by omega)⟩
theorem tail_in (l : List Int) (j : Nat) (hj : j < l.length) (h0 : 0 ≤ l[j]) (h1 : l[j] < 256) : abridgerref1_tail.f l (j : Int) = some (if cont l[j] then (l[j] - 128, true) else (0, false)) := by
  have hr : rd l (j : Int) = l[j] := by simp [rd, List.getD_eq_getElem?_getD, hj]
  unfold abridgerref1_tail.f
  rw [if_neg (by omega), if_pos (by omega), if_pos (by omega), hr]
  by_cases hk : cont l[j]
  · rw [if_pos ((and_cont h0 h1).2 hk), if_pos hk, u8_and63 l[j] h0 h1]
    unfold cont at hk
    rw [wrap64_in (by omega) (by omega), show l[j] % 64 = l[j] - 128 by omega]
  · rw [if_neg (fun h => hk ((and_cont h0 h1).1 h)), if_neg hk]
theorem tail_out (l : List Int) (j : Int) (hj : (l.length : Int) ≤ j) : abridgerref1_tail.f l j = some (0, false) := by
  unfold abridgerref1_tail.f
  rw [if_pos hj]
/-- One more byte. -/
theorem rl0_in {a t : List Int} {c d : Int} {n x low : Int} {i : Nat} {R : Int × Int × Bool} (hc : t[i]? = some d) (hd : 0 ≤ d ∧ d < 256) (hn : ((i : Int) + 1) < n) (hn4 : n ≤ 4) (hx : 0 ≤ x) (hx1 : x < 33554432) (hl : ((a ++ c :: t).length : Int) ≤ 140737488355328)
    (h : cont d → Evt (fun k => abridgerref1_Next.l0 k (a ++ c :: t) (a.length : Int) n (x * 64 + (d - 128)) low ((i : Int) + 2)) R) (hb : ¬ cont d → R = bad) : Evt (fun k => abridgerref1_Next.l0 k (a ++ c :: t) (a.length : Int) n x low ((i : Int) + 1)) R := by
  obtain ⟨hi, hie⟩ := List.getElem?_eq_some_iff.1 hc
  simp only [List.length_append, List.length_cons] at hl
  have hj : a.length + (i + 1) < (a ++ c :: t).length := by simp only [List.length_append, List.length_cons]; omega
  have hg : (a ++ c :: t)[a.length + (i + 1)] = d := by
    rw [List.getElem_append_right (by omega)]
    simp [hie]
  have ht := tail_in (a ++ c :: t) (a.length + (i + 1)) hj (by rw [hg]; exact hd.1) (by rw [hg]; exact hd.2)
  rw [hg] at ht
  refine Evt.succ ?_
  simp only [abridgerref1_Next.l0]
  rw [wrap64_in (n := (a.length : Int) + ((i : Int) + 1)) (by omega) (by omega), show (a.length : Int) + ((i : Int) + 1) = ((a.length + (i + 1) : Nat) : Int) by omega, ht]
  refine Evt.pos hn ?_
  by_cases hk : cont d
  · have hk' := hk
    unfold cont at hk'
    simp only [if_pos hk, Option.bind_some, if_true]
    rw [wrap64_in (n := x * 64) (by omega) (by omega), wrap64_in (n := (i : Int) + 1 + 1) (by omega) (by omega), i64_or6 hx hx1 (by omega) (by omega), show (i : Int) + 1 + 1 = (i : Int) + 2 by omega]
    exact h hk
  · simp only [if_neg hk, Option.bind_some, Bool.false_eq_true, if_false]
    rw [hb hk]
    exact Evt.const _
/-- No more bytes. -/
theorem rl0_out {a t : List Int} {c : Int} {n x low : Int} {i : Nat} (hi : t.length ≤ i) (hi4 : i ≤ 4) (hn : ((i : Int) + 1) < n) (hl : ((a ++ c :: t).length : Int) ≤ 140737488355328) : Evt (fun k => abridgerref1_Next.l0 k (a ++ c :: t) (a.length : Int) n x low ((i : Int) + 1)) bad := by
  simp only [List.length_append, List.length_cons] at hl
  refine Evt.succ ?_
  simp only [abridgerref1_Next.l0]
  rw [wrap64_in (n := (a.length : Int) + ((i : Int) + 1)) (by omega) (by omega), tail_out _ _ (by simp only [List.length_append, List.length_cons]; omega)]
  refine Evt.pos hn ?_
  simp only [Option.bind_some, Bool.false_eq_true, if_false]
  exact Evt.const _
/-- All bytes are there. -/
theorem rl0_end {l : List Int} {i n x low : Int} (hx : 0 ≤ x) : Evt (fun k => abridgerref1_Next.l0 k l i n x low n) (if low ≤ x ∧ isCp x then (x, n, true) else bad) := by
  refine Evt.succ ?_
  simp only [abridgerref1_Next.l0]
  refine Evt.neg (by omega) ?_
  refine Evt.of ?_
  unfold bad
  by_cases c1 : x < low
  · rw [if_pos c1, if_neg (by omega)]
  rw [if_neg c1]
  by_cases c2 : x > 1114111
  · rw [if_pos c2, if_neg (by unfold isCp; omega)]
  rw [if_neg c2]
  by_cases c3 : x ≥ 55296
  · rw [if_pos c3]
    by_cases c4 : x < 57344
    · rw [if_pos c4, if_neg (by unfold isCp; omega)]
    · rw [if_neg c4, if_pos (by unfold isCp; omega)]
  · rw [if_neg c3, if_pos (by unfold isCp; omega)]
theorem fin_low {n x low : Int} (hx : 0 ≤ x) (hlow : (n = 1 ∧ low = 0 ∧ x < 128) ∨ (n = 2 ∧ low = 128 ∧ x < 2048) ∨ (n = 3 ∧ low = 2048 ∧ x < 65536) ∨ (n = 4 ∧ low = 65536)) : (if low ≤ x ∧ isCp x then (x, n, true) else bad) = fin x n := by
  unfold fin
  by_cases h : isCp x
  · by_cases h2 : low ≤ x
    · rw [if_pos ⟨h2, h⟩, if_pos ⟨h, by unfold size; (repeat' split) <;> omega⟩]
    · rw [if_neg (fun h3 => h2 h3.1), if_neg (fun h3 => h2 (by have := h3.2; unfold size at this; (repeat' split at this) <;> omega))]
  · rw [if_neg (fun h3 => h h3.2), if_neg (fun h3 => h h3.1)]
theorem ref_next_at (a : List Int) (c : Int) (t : List Int) (hb : Bytes (c :: t)) (hl : ((a ++ c :: t).length : Int) ≤ 140737488355328) : Evt (fun k => abridgerref1_Next.f k (a ++ c :: t) (a.length : Int)) (dec (c :: t)) := by
  have hc := hb.head
  have ht := hb.tail
  have hl' := hl
  simp only [List.length_append, List.length_cons] at hl'
  obtain ⟨k31, k15, k7⟩ := rmask c hc.1 hc.2
  simp only [abridgerref1_Next.f]
  refine Evt.neg (by omega) ?_
  rw [decide_eq_false (by simp only [List.length_append, List.length_cons]; omega)]
  refine Evt.succ ?_
  simp only [abridgerref1_Next.j0, rd_append]
  refine Evt.neg (by decide) (Evt.pos (by omega) (Evt.pos (by simp only [List.length_append, List.length_cons]; omega) ?_))
  rw [wrap64_in (n := c) (by omega) (by omega)]
  have j3 : ∀ n x low : Int, ∀ R, Evt (fun k => abridgerref1_Next.l0 k (a ++ c :: t) (a.length : Int) n x low 1) R → Evt (fun k => abridgerref1_Next.j3 k (a ++ c :: t) (a.length : Int) n x low) R := by
    intro n x low R h
    refine Evt.succ ?_
    simp only [abridgerref1_Next.j3]
    exact h
  simp only [dec]
  by_cases c1 : c < 128
  · rw [if_pos c1]
    refine Evt.pos c1 (j3 _ _ _ _ ?_)
    have := @rl0_end (a ++ c :: t) (a.length : Int) 1 c 0 hc.1
    rw [fin_low hc.1 (Or.inl ⟨rfl, rfl, c1⟩), fin, if_pos ⟨by unfold isCp; omega, by unfold size; rw [if_pos c1]⟩] at this
    exact this
  rw [if_neg c1]
  refine Evt.neg c1 ?_
  have byte : ∀ d, d ∈ t → 0 ≤ d ∧ d < 256 := fun d hd => ht d hd
  by_cases c2 : c ≥ 192 ∧ c < 224
  · refine Evt.pos (by omega) ?_
    rw [decide_eq_true (by omega)]
    refine Evt.succ ?_
    simp only [abridgerref1_Next.j1, if_true, k31]
    rw [show c % 32 = c - 192 by omega]
    refine j3 _ _ _ _ ?_
    rcases t with _ | ⟨d, t⟩
    · have h1 := @rl0_out a [] c 2 (c - 192) 128 0 (by simp) (by omega) (by omega) hl
      have : (if 194 ≤ c ∧ c < 224 then bad else if 224 ≤ c ∧ c < 240 then bad else if 240 ≤ c ∧ c < 245 then bad else bad) = bad := by (repeat' split) <;> rfl
      rw [this]
      exact h1
    · have hd := byte d (by simp)
      by_cases c3 : 194 ≤ c
      · simp only [if_pos (show 194 ≤ c ∧ c < 224 by omega)]
        refine @rl0_in a (d :: t) c d 2 (c - 192) 128 0 _ rfl hd (by omega) (by omega) (by omega) (by omega) hl (fun hk => ?_) (fun hk => if_neg hk)
        unfold cont at hk
        have := @rl0_end (a ++ c :: d :: t) (a.length : Int) 2 ((c - 192) * 64 + (d - 128)) 128 (by omega)
        rw [fin_low (by omega) (Or.inr (Or.inl ⟨rfl, rfl, by omega⟩))] at this
        rw [if_pos (show cont d by unfold cont; omega)]
        exact this
      · rw [if_neg (show ¬ (194 ≤ c ∧ c < 224) by omega), if_neg (show ¬ (224 ≤ c ∧ c < 240) by omega), if_neg (show ¬ (240 ≤ c ∧ c < 245) by omega)]
        refine @rl0_in a (d :: t) c d 2 (c - 192) 128 0 _ rfl hd (by omega) (by omega) (by omega) (by omega) hl (fun hk => ?_) (fun hk => rfl)
        unfold cont at hk
        have := @rl0_end (a ++ c :: d :: t) (a.length : Int) 2 ((c - 192) * 64 + (d - 128)) 128 (by omega)
        rw [if_neg (by omega)] at this
        exact this
  rw [if_neg (show ¬ (194 ≤ c ∧ c < 224) by omega)]
  have j2 : ∀ R, Evt (fun k => abridgerref1_Next.j1 k (a ++ c :: t) (a.length : Int) c false) R → Evt (fun k => if c ≥ 192 then abridgerref1_Next.j1 k (a ++ c :: t) (a.length : Int) c (decide (c < 224)) else abridgerref1_Next.j1 k (a ++ c :: t) (a.length : Int) c false) R := by
    intro R h
    by_cases h1 : c ≥ 192
    · refine Evt.pos h1 ?_
      rw [decide_eq_false (by omega)]
      exact h
    · exact Evt.neg h1 h
  refine j2 _ (Evt.succ ?_)
  simp only [abridgerref1_Next.j1, Bool.false_eq_true, if_false]
  by_cases c4 : 224 ≤ c ∧ c < 240
  · refine Evt.pos (by omega) ?_
    rw [decide_eq_true (by omega), if_pos c4]
    refine Evt.succ ?_
    simp only [abridgerref1_Next.j2, if_true, k15]
    rw [show c % 16 = c - 224 by omega]
    refine j3 _ _ _ _ ?_
    rcases t with _ | ⟨d, t⟩
    · exact @rl0_out a [] c 3 (c - 224) 2048 0 (by simp) (by omega) (by omega) hl
    have hd := byte d (by simp)
    rcases t with _ | ⟨e, t⟩
    · refine @rl0_in a [d] c d 3 (c - 224) 2048 0 _ rfl hd (by omega) (by omega) (by omega) (by omega) hl (fun hk => ?_) (fun hk => rfl)
      exact @rl0_out a [d] c 3 _ 2048 1 (by simp) (by omega) (by omega) hl
    have he := byte e (by simp)
    refine @rl0_in a (d :: e :: t) c d 3 (c - 224) 2048 0 _ rfl hd (by omega) (by omega) (by omega) (by omega) hl (fun hk => ?_) (fun hk => if_neg (fun h => hk h.1))
    have hk' := hk
    unfold cont at hk'
    refine @rl0_in a (d :: e :: t) c e 3 _ 2048 1 _ rfl he (by omega) (by omega) (by omega) (by omega) hl (fun hk2 => ?_) (fun hk2 => if_neg (fun h => hk2 h.2))
    have hk2' := hk2
    unfold cont at hk2'
    have := @rl0_end (a ++ c :: d :: e :: t) (a.length : Int) 3 (((c - 224) * 64 + (d - 128)) * 64 + (e - 128)) 2048 (by omega)
    rw [fin_low (by omega) (Or.inr (Or.inr (Or.inl ⟨rfl, rfl, by omega⟩)))] at this
    show Evt _ (if cont d ∧ cont e then fin ((c - 224) * 4096 + (d - 128) * 64 + (e - 128)) 3 else bad)
    rw [if_pos ⟨hk, hk2⟩, show (c - 224) * 4096 + (d - 128) * 64 + (e - 128) = ((c - 224) * 64 + (d - 128)) * 64 + (e - 128) by omega]
    exact this
  rw [if_neg c4]
  have j4 : ∀ R, Evt (fun k => abridgerref1_Next.j2 k (a ++ c :: t) (a.length : Int) c false) R → Evt (fun k => if c ≥ 224 then abridgerref1_Next.j2 k (a ++ c :: t) (a.length : Int) c (decide (c < 240)) else abridgerref1_Next.j2 k (a ++ c :: t) (a.length : Int) c false) R := by
    intro R h
    by_cases h1 : c ≥ 224
    · refine Evt.pos h1 ?_
      rw [decide_eq_false (by omega)]
      exact h
    · exact Evt.neg h1 h
  refine j4 _ (Evt.succ ?_)
  simp only [abridgerref1_Next.j2, Bool.false_eq_true, if_false]
  by_cases c5 : 240 ≤ c ∧ c < 248
  · refine Evt.pos (by omega) (Evt.pos c5.2 ?_)
    rw [k7, show c % 8 = c - 240 by omega]
    refine j3 _ _ _ _ ?_
    rcases t with _ | ⟨d, t⟩
    · have h1 := @rl0_out a [] c 4 (c - 240) 65536 0 (by simp) (by omega) (by omega) hl
      split <;> exact h1
    have hd := byte d (by simp)
    rcases t with _ | ⟨e, t⟩
    · have h1 : Evt (fun k => abridgerref1_Next.l0 k (a ++ [c, d]) (a.length : Int) 4 (c - 240) 65536 1) bad := by
        refine @rl0_in a [d] c d 4 (c - 240) 65536 0 _ rfl hd (by omega) (by omega) (by omega) (by omega) hl (fun hk => ?_) (fun hk => rfl)
        exact @rl0_out a [d] c 4 _ 65536 1 (by simp) (by omega) (by omega) hl
      split <;> exact h1
    have he := byte e (by simp)
    rcases t with _ | ⟨f, t⟩
    · have h1 : Evt (fun k => abridgerref1_Next.l0 k (a ++ [c, d, e]) (a.length : Int) 4 (c - 240) 65536 1) bad := by
        refine @rl0_in a [d, e] c d 4 (c - 240) 65536 0 _ rfl hd (by omega) (by omega) (by omega) (by omega) hl (fun hk => ?_) (fun hk => rfl)
        unfold cont at hk
        refine @rl0_in a [d, e] c e 4 _ 65536 1 _ rfl he (by omega) (by omega) (by omega) (by omega) hl (fun hk => ?_) (fun hk => rfl)
        exact @rl0_out a [d, e] c 4 _ 65536 2 (by simp) (by omega) (by omega) hl
      split <;> exact h1
    have hf := byte f (by simp)
    have key : Evt (fun k => abridgerref1_Next.l0 k (a ++ c :: d :: e :: f :: t) (a.length : Int) 4 (c - 240) 65536 1) (if cont d ∧ cont e ∧ cont f then fin ((c - 240) * 262144 + (d - 128) * 4096 + (e - 128) * 64 + (f - 128)) 4 else bad) := by
      refine @rl0_in a (d :: e :: f :: t) c d 4 (c - 240) 65536 0 _ rfl hd (by omega) (by omega) (by omega) (by omega) hl (fun hk => ?_) (fun hk => if_neg (fun h => hk h.1))
      have hk' := hk
      unfold cont at hk'
      refine @rl0_in a (d :: e :: f :: t) c e 4 _ 65536 1 _ rfl he (by omega) (by omega) (by omega) (by omega) hl (fun hk2 => ?_) (fun hk2 => if_neg (fun h => hk2 h.2.1))
      have hk2' := hk2
      unfold cont at hk2'
      refine @rl0_in a (d :: e :: f :: t) c f 4 _ 65536 2 _ rfl hf (by omega) (by omega) (by omega) (by omega) hl (fun hk3 => ?_) (fun hk3 => if_neg (fun h => hk3 h.2.2))
      have hk3' := hk3
      unfold cont at hk3'
      have := @rl0_end (a ++ c :: d :: e :: f :: t) (a.length : Int) 4 ((((c - 240) * 64 + (d - 128)) * 64 + (e - 128)) * 64 + (f - 128)) 65536 (by omega)
      rw [fin_low (by omega) (Or.inr (Or.inr (Or.inr ⟨rfl, rfl⟩)))] at this
      rw [if_pos ⟨hk, hk2, hk3⟩, show (c - 240) * 262144 + (d - 128) * 4096 + (e - 128) * 64 + (f - 128) = (((c - 240) * 64 + (d - 128)) * 64 + (e - 128)) * 64 + (f - 128) by omega]
      exact this
    by_cases c6 : c < 245
    · simp only [if_pos (show 240 ≤ c ∧ c < 245 by omega)]
      exact key
    · rw [if_neg (by omega)]
      have hbad : (if cont d ∧ cont e ∧ cont f then fin ((c - 240) * 262144 + (d - 128) * 4096 + (e - 128) * 64 + (f - 128)) 4 else bad) = bad := by
        split
        · rename_i h
          unfold cont at h
          unfold fin isCp
          rw [if_neg (by omega)]
        · rfl
      rw [hbad] at key
      exact key
  rw [if_neg (show ¬ (240 ≤ c ∧ c < 245) by omega)]
  by_cases c7 : c ≥ 240
  · exact Evt.pos c7 (Evt.neg (by omega) (Evt.const _))
  · exact Evt.neg c7 (Evt.const _)
/-- The reference's Next answers as the model. -/
theorem ref_next_ev (l : List Int) (hb : Bytes l) (hl : (l.length : Int) ≤ 140737488355328) (i : Int) : Evt (fun k => abridgerref1_Next.f k l i) (nx l i) := by
  by_cases h0 : i < 0
  · rw [nx_out (Or.inl h0)]
    simp only [abridgerref1_Next.f]
    refine Evt.pos h0 (Evt.succ ?_)
    simp only [abridgerref1_Next.j0, if_true]
    exact Evt.const _
  by_cases h1 : (l.length : Int) ≤ i
  · rw [nx_out (Or.inr h1)]
    simp only [abridgerref1_Next.f]
    refine Evt.neg h0 ?_
    rw [decide_eq_true (by omega)]
    refine Evt.succ ?_
    simp only [abridgerref1_Next.j0, if_true]
    exact Evt.const _
  obtain ⟨a, c, t, rfl, rfl⟩ := split_at (l := l) (i := i) (by omega) (by omega)
  rw [nx_at]
  exact ref_next_at a c t hb.right hl
theorem ref_valid_from (t : List Int) (ht : (dec t).2.2 = false) (hbt : Bytes t) (rs : List Int) (hrs : ∀ r ∈ rs, isCp r) : ∀ a : List Int, ((a ++ (encAll rs ++ t)).length : Int) ≤ 140737488355328 → Bytes a →
    Evt (fun k => abridgerref1_Valid.l0 k (a ++ (encAll rs ++ t)) (a.length : Int)) (((a ++ encAll rs).length : Int), decide (t = [])) := by
  induction rs with
  | nil =>
    intro a hl ha
    refine Evt.succ ?_
    simp only [abridgerref1_Valid.l0, encAll_nil, List.nil_append, List.append_nil] at hl ⊢
    rcases t with _ | ⟨c, t⟩
    · refine Evt.neg (by simp) ?_
      exact Evt.const _
    · have hn := ref_next_ev (a ++ c :: t) (ha.append hbt) hl (a.length : Int)
      rw [nx_at, dec_false (by simp) ht] at hn
      refine Evt.pos (by simp; omega) (Evt.bind hn ?_)
      simp only [bad, Bool.false_eq_true, if_false]
      exact Evt.const _
  | cons r rs ih =>
    intro a hl ha
    have hr := hrs r (by simp)
    have hrs' : ∀ x ∈ rs, isCp x := fun x hx => hrs x (by simp [hx])
    have h1 := @enc_size r
    have h2 := size_range r
    have hn := ref_next_ev (a ++ (encAll (r :: rs) ++ t)) (ha.append ((encAll_bytes hrs).append hbt)) hl (a.length : Int)
    rw [nx_at, encAll_cons, List.append_assoc, dec_enc hr] at hn
    refine Evt.succ ?_
    rw [encAll_cons, List.append_assoc] at hl ⊢
    simp only [abridgerref1_Valid.l0]
    have hl' : ((a.length : Int) + ((enc r).length + ((encAll rs).length + t.length : Nat) : Nat)) ≤ 140737488355328 := by
      simp only [List.length_append] at hl
      omega
    refine Evt.pos (by simp only [List.length_append]; omega) (Evt.bind hn ?_)
    simp only [if_true]
    rw [wrap64_in (by omega) (by omega), show (a.length : Int) + size r = ((a ++ enc r).length : Int) by rw [← h1]; simp, ← List.append_assoc a, show a ++ (enc r ++ encAll rs) = (a ++ enc r) ++ encAll rs by rw [List.append_assoc]]
    exact ih hrs' (a ++ enc r) (by rw [List.append_assoc]; exact hl) (ha.append (enc_bytes hr))
theorem ref_valid_ev {rs t : List Int} (hrs : ∀ r ∈ rs, isCp r) (ht : (dec t).2.2 = false) (hbt : Bytes t) (hl : ((encAll rs ++ t).length : Int) ≤ 140737488355328) :
    Evt (fun k => abridgerref1_Valid.f k (encAll rs ++ t)) (((encAll rs).length : Int), decide (t = [])) := by
  simp only [abridgerref1_Valid.f]
  exact ref_valid_from t ht hbt rs hrs [] hl Bytes.nil

end Go.Proofs.Ytanepjclkciecaa.RefEq

/- The input of a style sheet in plain Lean: which code points any bytes are. No program stands here. -/
namespace Go.Proofs.Ytanepjclkciecaa.Cinput
open Go.RowKit Go.Proofs.Ytanepjclkciecaa.Base Go.Proofs.Ytanepjclkciecaa.Utf

/-- A code point, as the input has it. -/
def cr (r : Int) : Int := if r = 0 then 65533 else if r = 12 then 10 else if r = 13 then 10 else r
/-- The code points of a text, each with the place where it begins (i: the text's own). -/
def runes : Nat → List Int → Int → List (Int × Int)
  | 0, _, _ => []
  | n + 1, l, i =>
    if l = [] then []
    else if (dec l).1 = 13 ∧ (l.drop (dec l).2.1.toNat).head? = some 10 then (10, i) :: runes n ((l.drop (dec l).2.1.toNat).drop 1) (i + (dec l).2.1 + 1)
    else (cr (dec l).1, i) :: runes n (l.drop (dec l).2.1.toNat) (i + (dec l).2.1)
theorem runes_nil (n : Nat) (i : Int) : runes n [] i = [] := by
  cases n <;> simp [runes]
theorem runes_pair {n : Nat} {l : List Int} {i : Int} (h : l ≠ []) (h13 : (dec l).1 = 13 ∧ (l.drop (dec l).2.1.toNat).head? = some 10) : runes (n + 1) l i = (10, i) :: runes n ((l.drop (dec l).2.1.toNat).drop 1) (i + (dec l).2.1 + 1) := by
  simp only [runes]
  rw [if_neg h, if_pos h13]
theorem runes_one {n : Nat} {l : List Int} {i : Int} (h : l ≠ []) (h13 : ¬ ((dec l).1 = 13 ∧ (l.drop (dec l).2.1.toNat).head? = some 10)) : runes (n + 1) l i = (cr (dec l).1, i) :: runes n (l.drop (dec l).2.1.toNat) (i + (dec l).2.1) := by
  simp only [runes]
  rw [if_neg h, if_neg h13]
theorem cr_ok {l : List Int} (hb : Bytes l) (h : l ≠ []) : isCp (cr (dec l).1) ∧ cr (dec l).1 ≠ 0 ∧ cr (dec l).1 ≠ 12 ∧ cr (dec l).1 ≠ 13 := by
  have hr : isCp (dec l).1 := by
    rcases hd : dec l with ⟨r, n, ok⟩
    cases ok with
    | true => exact (enc_dec hb hd).1
    | false =>
      have := dec_false h (by rw [hd])
      rw [hd] at this
      simp only [bad, Prod.mk.injEq] at this
      show isCp r
      rw [this.1]
      decide
  unfold isCp at hr
  unfold cr isCp
  (repeat' split) <;> omega
/-- What the code points of any bytes are. -/
theorem runes_ok (n : Nat) : ∀ (l : List Int) (i : Int), Bytes l → ∀ x ∈ runes n l i, isCp x.1 ∧ x.1 ≠ 0 ∧ x.1 ≠ 12 ∧ x.1 ≠ 13 := by
  induction n with
  | zero => intro l i _ x hx; simp [runes] at hx
  | succ n ih =>
    intro l i hb x hx
    by_cases hl : l = []
    · subst hl
      rw [runes_nil] at hx
      simp at hx
    by_cases h13 : (dec l).1 = 13 ∧ (l.drop (dec l).2.1.toNat).head? = some 10
    · rw [runes_pair hl h13] at hx
      rcases List.mem_cons.1 hx with rfl | h
      · exact ⟨show isCp 10 by decide, show (10 : Int) ≠ 0 by decide, show (10 : Int) ≠ 12 by decide, show (10 : Int) ≠ 13 by decide⟩
      · exact ih _ _ ((hb.drop _).drop _) x h
    · rw [runes_one hl h13] at hx
      rcases List.mem_cons.1 hx with rfl | h
      · exact cr_ok hb hl
      · exact ih _ _ (hb.drop _) x h
/-- Places rise, and lie within the text. -/
def Rises : Int → Int → List (Int × Int) → Prop
  | _, _, [] => True
  | a, e, x :: t => a < x.2 ∧ x.2 < e ∧ Rises x.2 e t
theorem Rises.mono {a b e : Int} (h : a ≤ b) {l : List (Int × Int)} (hl : Rises b e l) : Rises a e l := by
  cases l with
  | nil => trivial
  | cons x t => exact ⟨by have := hl.1; omega, hl.2⟩
theorem runes_rise (n : Nat) : ∀ (l : List Int) (i : Int), Bytes l → Rises (i - 1) (i + (l.length : Int)) (runes n l i) := by
  induction n with
  | zero => intro l i _; exact trivial
  | succ n ih =>
    intro l i hb
    by_cases hl : l = []
    · subst hl
      rw [runes_nil]
      exact trivial
    have hd := dec_len hb hl
    have hlen : 0 < l.length := List.length_pos_iff.2 hl
    by_cases h13 : (dec l).1 = 13 ∧ (l.drop (dec l).2.1.toNat).head? = some 10
    · rw [runes_pair hl h13]
      refine ⟨by simp only; omega, by simp only; omega, ?_⟩
      have h1 := ih ((l.drop (dec l).2.1.toNat).drop 1) (i + (dec l).2.1 + 1) ((hb.drop _).drop _)
      have hne : 0 < (l.drop (dec l).2.1.toNat).length := by
        rcases hu : l.drop (dec l).2.1.toNat with _ | ⟨c, t⟩
        · rw [hu] at h13
          simp at h13
        · simp
      rw [List.length_drop] at hne
      rw [List.length_drop, List.length_drop] at h1
      refine Rises.mono (b := i + (dec l).2.1 + 1 - 1) (by simp only; omega) (by rw [show i + (l.length : Int) = i + (dec l).2.1 + 1 + ((l.length - (dec l).2.1.toNat - 1 : Nat) : Int) by omega]; exact h1)
    · rw [runes_one hl h13]
      refine ⟨by simp only; omega, by simp only; omega, ?_⟩
      have h1 := ih (l.drop (dec l).2.1.toNat) (i + (dec l).2.1) (hb.drop _)
      rw [List.length_drop] at h1
      refine Rises.mono (b := i + (dec l).2.1 - 1) (by simp only; omega) (by rw [show i + (l.length : Int) = i + (dec l).2.1 + ((l.length - (dec l).2.1.toNat : Nat) : Int) by omega]; exact h1)
theorem runes_length (n : Nat) : ∀ (l : List Int) (i : Int), (runes n l i).length ≤ n := by
  induction n with
  | zero => intro l i; simp [runes]
  | succ n ih =>
    intro l i
    simp only [runes]
    split
    · simp
    · split
      · simp only [List.length_cons]
        have := ih ((l.drop (dec l).2.1.toNat).drop 1) (i + (dec l).2.1 + 1)
        omega
      · simp only [List.length_cons]
        have := ih (l.drop (dec l).2.1.toNat) (i + (dec l).2.1)
        omega
/-- Code points that stand as they are: places of what was written. -/
def spots : List Int → Int → List (Int × Int)
  | [], _ => []
  | r :: rs, i => (r, i) :: spots rs (i + size r)
theorem enc_head {r : Int} (hr : isCp r) (t : List Int) (h : (enc r ++ t).head? = some 10) : r = 10 := by
  unfold isCp at hr
  unfold enc at h
  (repeat' split at h) <;> (simp only [List.cons_append, List.nil_append, List.head?_cons, Option.some.injEq] at h; omega)
theorem dec_drop {r : Int} (hr : isCp r) (t : List Int) : (enc r ++ t).drop (dec (enc r ++ t)).2.1.toNat = t := by
  rw [dec_enc hr]
  have := @enc_size r
  simp only
  rw [show (size r).toNat = (enc r).length by omega, List.drop_left]
theorem enc_ne (r : Int) (t : List Int) : enc r ++ t ≠ [] := by
  intro h
  have h1 := @enc_size r
  have h2 := size_range r
  have := congrArg List.length h
  rw [List.length_append, List.length_nil] at this
  omega
theorem runes_spots (rs : List Int) : ∀ (n : Nat) (i : Int), (∀ r ∈ rs, isCp r ∧ r ≠ 0 ∧ r ≠ 12 ∧ r ≠ 13) → rs.length ≤ n → runes n (encAll rs) i = spots rs i := by
  induction rs with
  | nil => intro n i _ _; rw [encAll_nil, runes_nil]; rfl
  | cons r rs ih =>
    intro n i hr hn
    obtain ⟨n, rfl⟩ : ∃ m, n = m + 1 := ⟨n - 1, by simp only [List.length_cons] at hn; omega⟩
    obtain ⟨h1, h2, h3, h4⟩ := hr r (by simp)
    rw [encAll_cons, runes_one (enc_ne _ _) (by rw [dec_enc h1]; exact fun h => h4 h.1), dec_drop h1, dec_enc h1, ih n _ (fun x hx => hr x (by simp [hx])) (by simp only [List.length_cons] at hn; omega)]
    simp only [spots, cr, if_neg h2, if_neg h3, if_neg h4]
theorem spots_map (rs : List Int) : ∀ i, (spots rs i).map Prod.fst = rs := by
  induction rs with
  | nil => intro i; rfl
  | cons r rs ih => intro i; simp [spots, ih]
theorem runes_fuel (n : Nat) : ∀ (m : Nat) (l : List Int) (i : Int), Bytes l → l.length ≤ n → n ≤ m → runes m l i = runes n l i := by
  induction n with
  | zero =>
    intro m l i _ h _
    have : l = [] := List.length_eq_zero_iff.1 (by omega)
    subst this
    rw [runes_nil, runes_nil]
  | succ n ih =>
    intro m l i hb h hm
    obtain ⟨m, rfl⟩ : ∃ k, m = k + 1 := ⟨m - 1, by omega⟩
    by_cases hl : l = []
    · subst hl
      rw [runes_nil, runes_nil]
    have hd := dec_len hb hl
    by_cases h13 : (dec l).1 = 13 ∧ (l.drop (dec l).2.1.toNat).head? = some 10
    · rw [runes_pair hl h13, runes_pair hl h13, ih _ _ _ ((hb.drop _).drop _) (by rw [List.length_drop, List.length_drop]; omega) (by omega)]
    · rw [runes_one hl h13, runes_one hl h13, ih _ _ _ (hb.drop _) (by rw [List.length_drop]; omega) (by omega)]
theorem runes_shift (n : Nat) : ∀ (l : List Int) (i j : Int), runes n l (i + j) = (runes n l i).map fun x => (x.1, x.2 + j) := by
  induction n with
  | zero => intro l i j; rfl
  | succ n ih =>
    intro l i j
    by_cases hl : l = []
    · subst hl
      rw [runes_nil, runes_nil]
      rfl
    by_cases h13 : (dec l).1 = 13 ∧ (l.drop (dec l).2.1.toNat).head? = some 10
    · rw [runes_pair hl h13, runes_pair hl h13, List.map_cons, ← ih, show i + (dec l).2.1 + 1 + j = i + j + (dec l).2.1 + 1 by omega]
    · rw [runes_one hl h13, runes_one hl h13, List.map_cons, ← ih, show i + (dec l).2.1 + j = i + j + (dec l).2.1 by omega]
/-- Texts one behind the other: the first is whole, and doesn't end with a byte 13. -/
theorem runes_join (k : Nat) : ∀ (rs t : List Int) (n : Nat) (i : Int), rs.length ≤ k → (∀ r ∈ rs, isCp r) → rs.getLast? ≠ some 13 → Bytes t → (encAll rs ++ t).length ≤ n →
    runes n (encAll rs ++ t) i = runes n (encAll rs) i ++ runes n t (i + ((encAll rs).length : Int)) := by
  induction k with
  | zero =>
    intro rs t n i hk _ _ _ _
    have : rs = [] := List.length_eq_zero_iff.1 (by omega)
    subst this
    rw [encAll_nil, runes_nil, List.nil_append, List.nil_append, List.length_nil]
    simp
  | succ k ih =>
    intro rs t n i hk hr hlast ht hn
    rcases rs with _ | ⟨r, rs⟩
    · rw [encAll_nil, runes_nil, List.nil_append, List.nil_append, List.length_nil]
      simp
    have hcp := hr r (by simp)
    have hrs : ∀ x ∈ rs, isCp x := fun x hx => hr x (by simp [hx])
    have h1 := @enc_size r
    have h2 := size_range r
    rw [encAll_cons, List.append_assoc] at hn ⊢
    rw [List.length_append] at hn
    obtain ⟨n, rfl⟩ : ∃ m, n = m + 1 := ⟨n - 1, by omega⟩
    have hbrs := encAll_bytes hrs
    have more : ∀ (q : List Int) (j : Int), (∀ x ∈ q, isCp x) → q.length ≤ k → q.getLast? ≠ some 13 → (encAll q ++ t).length ≤ n →
        runes n (encAll q ++ t) j = runes n (encAll q) j ++ runes (n + 1) t (j + ((encAll q).length : Int)) := by
      intro q j hq hqk hql hqn
      rw [ih q t n j hqk hq hql ht hqn, runes_fuel n (n + 1) t _ ht (by rw [List.length_append] at hqn; omega) (by omega)]
    by_cases h13 : r = 13 ∧ (encAll rs ++ t).head? = some 10
    · obtain ⟨rfl, hh⟩ := h13
      rcases rs with _ | ⟨r2, rs⟩
      · exact absurd rfl hlast
      have hcp2 := hrs r2 (by simp)
      have hh2 : (encAll (r2 :: rs)).head? = some 10 := by
        rw [encAll_cons] at hh ⊢
        rcases he : enc r2 with _ | ⟨c, e⟩
        · have := @enc_size r2
          have := size_range r2
          rw [he] at *
          simp at *
          omega
        · rw [he] at hh
          simpa using hh
      have h10 : r2 = 10 := by
        rw [encAll_cons] at hh2
        exact enc_head hcp2 _ hh2
      subst h10
      have e10 : enc 10 = [10] := by decide
      have hl2 : rs.getLast? ≠ some 13 := by
        rcases rs with _ | ⟨r3, rs⟩
        · simp
        · simpa [List.getLast?_cons_cons] using hlast
      rw [runes_pair (enc_ne _ _) (by rw [dec_enc hcp, ← dec_enc hcp (encAll (10 :: rs) ++ t), dec_drop hcp]; exact ⟨by rw [dec_enc hcp], hh⟩), dec_drop hcp, dec_enc hcp]
      rw [runes_pair (enc_ne _ _) (by rw [dec_drop hcp]; exact ⟨by rw [dec_enc hcp], hh2⟩), dec_drop hcp, dec_enc hcp]
      simp only [encAll_cons, e10, List.cons_append, List.nil_append, List.drop_succ_cons, List.drop_zero, List.cons.injEq, true_and]
      rw [more rs _ (fun x hx => hrs x (by simp [hx])) (by simp only [List.length_cons] at hk; omega) hl2 (by simp only [encAll_cons, e10, List.cons_append, List.nil_append, List.length_cons] at hn; omega)]
      have e1 : (enc 13).length = 1 := by decide
      have e2 : size 13 = 1 := by decide
      simp only [List.length_append, List.length_cons, e1, e2]
      congr 2
      omega
    · have hlast2 : rs.getLast? ≠ some 13 := by
        rcases rs with _ | ⟨r3, rs⟩
        · simp
        · simpa [List.getLast?_cons_cons] using hlast
      have h13' : ¬ (r = 13 ∧ (encAll rs).head? = some 10) := by
        rintro ⟨ha, hb⟩
        apply h13
        refine ⟨ha, ?_⟩
        rcases he : encAll rs with _ | ⟨c, e⟩
        · rw [he] at hb
          simp at hb
        · rw [he] at hb
          simpa using hb
      rw [runes_one (enc_ne _ _) (by rw [dec_drop hcp, dec_enc hcp]; exact h13), runes_one (enc_ne _ _) (by rw [dec_drop hcp, dec_enc hcp]; exact h13'), dec_drop hcp, dec_drop hcp, dec_enc hcp, dec_enc hcp]
      rw [more rs _ hrs (by simp only [List.length_cons] at hk; omega) hlast2 (by omega)]
      simp only [List.cons_append, List.length_append]
      congr 3
      omega
end Go.Proofs.Ytanepjclkciecaa.Cinput

/- The functions of the package cinput, as they are printed in plain Lean, answer as the model Cinput says. -/
namespace Go.Proofs.Ytanepjclkciecaa.CinputEq
open Go.RowKit Go.Proofs.YtanepjclkciecaaW.PrintWords Go.Proofs.Ytanepjclkciecaa.Base Go.Proofs.Ytanepjclkciecaa.Utf Go.Proofs.Ytanepjclkciecaa.UtfEq Go.Proofs.Ytanepjclkciecaa.Cinput Go.Proofs.Ytanepjclkciecaa.TextEq Go.Proofs.Ytanepjclkciecaa.RefEq Go.Proofs.Ytanepjclkciecaa.Q

def mkR (x : Int × Int) : S30 := ⟨x.1, x.2⟩
theorem runes_l0 (n : Nat) : ∀ (t a : List Int) (acc : List S30), t.length ≤ n → Bytes (a ++ t) → (a ++ t).length ≤ 1000000000 → acc.length ≤ a.length →
    Evt (fun k => cinput_Runes.l0 k (a ++ t) acc (a.length : Int)) (acc ++ (runes n t (a.length : Int)).map mkR) := by
  have done : ∀ (a : List Int) (acc : List S30), Evt (fun k => cinput_Runes.l0 k (a ++ []) acc (a.length : Int)) acc := by
    intro a acc
    refine Evt.succ ?_
    simp only [cinput_Runes.l0]
    exact Evt.neg (by simp) (Evt.const _)
  induction n with
  | zero =>
    intro t a acc hn _ _ _
    have : t = [] := List.length_eq_zero_iff.1 (by omega)
    subst this
    rw [runes_nil, List.map_nil, List.append_nil acc]
    exact done a acc
  | succ n ih =>
    intro t a acc hn hb hl hacc
    by_cases ht : t = []
    · subst ht
      rw [runes_nil, List.map_nil, List.append_nil acc]
      exact done a acc
    have hdl := dec_len hb.right ht
    have hnx := next_ev (a ++ t) hb (by omega) (a.length : Int)
    rw [nx_at] at hnx
    have hlen : (a ++ t).length = a.length + t.length := List.length_append
    obtain ⟨m, hm⟩ := Int.eq_ofNat_of_zero_le (show 0 ≤ (dec t).2.1 by omega)
    have hm' : (dec t).2.1 = (m : Int) := hm
    have hmN : (dec t).2.1.toNat = m := by omega
    have hat : ∀ j, a ++ t = (a ++ t.take j) ++ t.drop j := fun j => by rw [List.append_assoc, List.take_append_drop]
    have hac : ∀ j, j ≤ t.length → (a ++ t.take j).length = a.length + j := fun j hj => by rw [List.length_append, List.length_take]; omega
    have rest : ∀ (j : Nat) (x : S30), 0 < j → j ≤ t.length → Evt (fun k => cinput_Runes.l0 k (a ++ t) (acc ++ [x]) ((a.length : Int) + (j : Int))) (acc ++ x :: (runes n (t.drop j) ((a.length : Int) + (j : Int))).map mkR) := by
      intro j x hj0 hj
      have := ih (t.drop j) (a ++ t.take j) (acc ++ [x]) (by rw [List.length_drop]; omega) (by rw [← hat]; exact hb) (by rw [← hat]; exact hl) (by rw [List.length_append, hac j hj, List.length_singleton]; omega)
      rw [← hat, hac j hj, List.append_assoc, show ((a.length + j : Nat) : Int) = (a.length : Int) + (j : Int) by omega] at this
      exact this
    have hhead : rd (a ++ t) ((a.length : Int) + (m : Int)) = (t.drop m).head?.getD 0 := by
      rw [hat m, show (a.length : Int) + (m : Int) = ((a ++ t.take m).length : Int) by rw [hac m (by omega)]; omega]
      rcases hu : t.drop m with _ | ⟨c, u⟩
      · rw [List.append_nil]; exact rd_end _
      · exact rd_append _ _ _
    refine Evt.succ ?_
    simp only [cinput_Runes.l0]
    refine Evt.pos (by omega) (Evt.bind hnx ?_)
    rw [hm', wrap64_in (n := (a.length : Int) + (m : Int)) (by omega) (by omega), wrap64_in (n := (a.length : Int) + (m : Int) + 1) (by omega) (by omega)]
    have lim : acc.length < 8796093022208 := by omega
    by_cases r0 : (dec t).1 = 0
    · rw [runes_one ht (by rw [r0]; exact fun h => absurd h.1 (by decide)), hmN, hm', r0]
      exact Evt.pos rfl (Evt.pos lim (rest m (mkR (65533, (a.length : Int))) (by omega) (by omega)))
    refine Evt.neg r0 ?_
    by_cases r12 : (dec t).1 = 12
    · rw [runes_one ht (by rw [r12]; exact fun h => absurd h.1 (by decide)), hmN, hm', r12]
      exact Evt.pos rfl (Evt.pos lim (rest m (mkR (10, (a.length : Int))) (by omega) (by omega)))
    refine Evt.neg r12 ?_
    by_cases r13 : (dec t).1 = 13
    · refine Evt.pos r13 ?_
      by_cases hh : (t.drop m).head? = some 10
      · have hdl2 : m < t.length := by
          rcases hu : t.drop m with _ | ⟨c, u⟩
          · rw [hu] at hh; simp at hh
          · have := congrArg List.length hu
            rw [List.length_drop, List.length_cons] at this
            omega
        rw [runes_pair ht ⟨r13, by rw [hmN]; exact hh⟩, hmN, hm', List.drop_drop]
        refine Evt.pos (by omega) (Evt.pos (by omega) (Evt.pos (by rw [hhead, hh]; rfl) (Evt.pos lim ?_)))
        have := rest (m + 1) (mkR (10, (a.length : Int))) (by omega) (by omega)
        rw [show (a.length : Int) + ((m + 1 : Nat) : Int) = (a.length : Int) + (m : Int) + 1 by omega] at this
        exact this
      · rw [runes_one ht (by rw [hmN]; exact fun h => hh h.2), hmN, hm', r13]
        have main := rest m (mkR (10, (a.length : Int))) (by omega) (by omega)
        by_cases hin : (a.length : Int) + (m : Int) < ((a ++ t).length : Int)
        · refine Evt.pos hin (Evt.pos (by omega) (Evt.neg ?_ (Evt.pos lim main)))
          rw [hhead]
          intro h
          rcases hu : t.drop m with _ | ⟨c, u⟩
          · rw [hu] at h; simp at h
          · rw [hu] at h hh
            simp at h hh
            exact hh h
        · exact Evt.neg hin (Evt.pos lim main)
    refine Evt.neg r13 ?_
    rw [runes_one ht (fun h => r13 h.1), hmN, hm']
    have := rest m (mkR ((dec t).1, (a.length : Int))) (by omega) (by omega)
    have ecr : cr (dec t).1 = (dec t).1 := by unfold cr; rw [if_neg r0, if_neg r12, if_neg r13]
    rw [ecr]
    exact Evt.pos lim this
theorem runes_ev (l : List Int) (hb : Bytes l) (hl : l.length ≤ 1000000000) : Evt (fun k => cinput_Runes.f k l) ((runes l.length l 0).map mkR) := by
  simp only [cinput_Runes.f]
  exact runes_l0 l.length l [] [] (Nat.le_refl _) hb hl (Nat.le_refl _)
theorem rd_R {L : List (Int × Int)} (i : Nat) (hi : i < L.length) : rd_T30 (L.map mkR) (i : Int) = mkR L[i] := by
  simp [rd_T30, List.getD_eq_getElem?_getD, hi]
theorem text_l (L : List (Int × Int)) (hl : L.length ≤ 1000000000) (d : Nat) : ∀ (i : Nat) (acc : List Int), i + d = L.length → acc.length = i →
    Evt (fun k => cinput_Text.l0 k acc (L.map mkR) ((L.map mkR).length : Int) (i : Int)) (strOfNums (puts (acc ++ (L.drop i).map Prod.fst))) := by
  induction d with
  | zero =>
    intro i acc hi ha
    have h := text_ev acc (by omega)
    refine Evt.succ ?_
    simp only [cinput_Text.l0, List.length_map]
    rw [List.drop_of_length_le (by omega), List.map_nil, List.append_nil]
    exact Evt.neg (by omega) (Evt.bind h (Evt.const _))
  | succ d ih =>
    intro i acc hi ha
    have hlt : i < L.length := by omega
    have hn := ih (i + 1) (acc ++ [L[i].1]) (by omega) (by rw [List.length_append, List.length_singleton, ha])
    rw [List.append_assoc, List.singleton_append, show L[i].1 :: (L.drop (i + 1)).map Prod.fst = (L.drop i).map Prod.fst by rw [List.drop_eq_getElem_cons hlt, List.map_cons], show ((i + 1 : Nat) : Int) = (i : Int) + 1 by omega] at hn
    refine Evt.succ ?_
    simp only [cinput_Text.l0, rd_R i hlt]
    rw [wrap64_in (n := (i : Int) + 1) (by omega) (by omega)]
    have hlm : (L.map mkR).length = L.length := List.length_map _
    refine Evt.pos (by omega) (Evt.pos (by omega) (Evt.pos (by omega) (Evt.pos (by omega) ?_)))
    exact hn
theorem ctext_ev (L : List (Int × Int)) (hl : L.length ≤ 1000000000) : Evt (fun k => cinput_Text.f k (L.map mkR)) (strOfNums (puts (L.map Prod.fst))) := by
  simp only [cinput_Text.f]
  have := text_l L hl L.length 0 [] (by omega) rfl
  simpa using this
end Go.Proofs.Ytanepjclkciecaa.CinputEq

/- The example that each law of chapter 13 asks first comes true. -/
namespace Go.Proofs.Ytanepjclkciecaa.CinputEq
open Go.RowKit Go.Proofs.YtanepjclkciecaaW.PrintWords Go.Proofs.Ytanepjclkciecaa.Base Go.Proofs.Ytanepjclkciecaa.Utf Go.Proofs.Ytanepjclkciecaa.UtfEq Go.Proofs.Ytanepjclkciecaa.Cinput Go.Proofs.Ytanepjclkciecaa.TextEq Go.Proofs.Ytanepjclkciecaa.Q

theorem alive_ev : Evt (fun k => abridgerlaw13_alive.f k) true := by
  have hb1 : Bytes [97, 13, 10] := by intro x hx; simp at hx; omega
  have h1 := runes_ev [97, 13, 10] hb1 (by decide)
  have h2 := runes_ev [] Bytes.nil (by decide)
  have e1 : runes ([97, 13, 10] : List Int).length [97, 13, 10] 0 = [(97, 0), (10, 1)] := by decide
  rw [e1] at h1
  have h3 := ctext_ev [(97, 0), (10, 1)] (by decide)
  have e3 : Lib.bytesOf (puts (([(97, 0), (10, 1)] : List (Int × Int)).map Prod.fst)) = [97, 10] := by decide
  simp only [abridgerlaw13_alive.f]
  refine Evt.bind h1 (Evt.bind h2 (Evt.pos rfl (Evt.pos rfl (Evt.pos (by decide) (Evt.pos rfl (Evt.bind h3 ?_))))))
  rw [str_toList, e3]
  exact Evt.const _
end Go.Proofs.Ytanepjclkciecaa.CinputEq

namespace Go.Proofs.Ytanepjclkciecaa.Pure
open Go.RowKit Go.Proofs.YtanepjclkciecaaW.PrintWords Go.Proofs.Ytanepjclkciecaa.Base Go.Proofs.Ytanepjclkciecaa.Utf Go.Proofs.Ytanepjclkciecaa.UtfEq Go.Proofs.Ytanepjclkciecaa.Cinput Go.Proofs.Ytanepjclkciecaa.CinputEq Go.Proofs.Ytanepjclkciecaa.TextEq Go.Proofs.Ytanepjclkciecaa.RefEq Go.Proofs.Ytanepjclkciecaa.Q

/-- A list is itself. -/
theorem same_l0 (L : List (Int × Int)) (hl : L.length ≤ 100000) (d : Nat) : ∀ i : Nat, i + d = L.length → Evt (fun k => abridgerlaw13_same.l0 k (L.map mkR) (L.map mkR) (i : Int)) true := by
  induction d with
  | zero =>
    intro i hi
    refine Evt.succ ?_
    simp only [abridgerlaw13_same.l0, List.length_map]
    exact Evt.neg (by omega) (Evt.const _)
  | succ d ih =>
    intro i hi
    have hlt : i < L.length := by omega
    have hn := ih (i + 1) (by omega)
    rw [show ((i + 1 : Nat) : Int) = (i : Int) + 1 by omega] at hn
    have e1 : (L.map mkR).length = L.length := List.length_map _
    refine Evt.succ ?_
    simp only [abridgerlaw13_same.l0, rd_R i hlt]
    rw [wrap64_in (n := (i : Int) + 1) (by omega) (by omega)]
    exact Evt.pos (by omega) (Evt.pos (by omega) (Evt.pos (by omega) (Evt.neg (by simp) hn)))
theorem same_ev (L : List (Int × Int)) (hl : L.length ≤ 100000) : Evt (fun k => abridgerlaw13_same.f k (L.map mkR) (L.map mkR)) true := by
  simp only [abridgerlaw13_same.f]
  exact Evt.pos (by simp) (same_l0 L hl L.length 0 (by omega))
theorem ref_runes_l0 (n : Nat) : ∀ (t a : List Int) (acc : List S30), t.length ≤ n → Bytes (a ++ t) → (a ++ t).length ≤ 1000000000 → acc.length ≤ a.length →
    Evt (fun k => abridgerref13_Runes.l0 k (a ++ t) acc (a.length : Int)) (acc ++ (runes n t (a.length : Int)).map mkR) := by
  have done : ∀ (a : List Int) (acc : List S30), Evt (fun k => abridgerref13_Runes.l0 k (a ++ []) acc (a.length : Int)) acc := by
    intro a acc
    refine Evt.succ ?_
    simp only [abridgerref13_Runes.l0]
    exact Evt.neg (by simp) (Evt.const _)
  induction n with
  | zero =>
    intro t a acc hn _ _ _
    have : t = [] := List.length_eq_zero_iff.1 (by omega)
    subst this
    rw [runes_nil, List.map_nil, List.append_nil acc]
    exact done a acc
  | succ n ih =>
    intro t a acc hn hb hl hacc
    by_cases ht : t = []
    · subst ht
      rw [runes_nil, List.map_nil, List.append_nil acc]
      exact done a acc
    have hdl := dec_len hb.right ht
    have hnx := ref_next_ev (a ++ t) hb (by omega) (a.length : Int)
    rw [nx_at] at hnx
    have hlen : (a ++ t).length = a.length + t.length := List.length_append
    obtain ⟨m, hm⟩ := Int.eq_ofNat_of_zero_le (show 0 ≤ (dec t).2.1 by omega)
    have hm' : (dec t).2.1 = (m : Int) := hm
    have hmN : (dec t).2.1.toNat = m := by omega
    have hat : ∀ j, a ++ t = (a ++ t.take j) ++ t.drop j := fun j => by rw [List.append_assoc, List.take_append_drop]
    have hac : ∀ j, j ≤ t.length → (a ++ t.take j).length = a.length + j := fun j hj => by rw [List.length_append, List.length_take]; omega
    have rest : ∀ (j : Nat) (x : S30), 0 < j → j ≤ t.length → Evt (fun k => abridgerref13_Runes.l0 k (a ++ t) (acc ++ [x]) ((a.length : Int) + (j : Int))) (acc ++ x :: (runes n (t.drop j) ((a.length : Int) + (j : Int))).map mkR) := by
      intro j x hj0 hj
      have := ih (t.drop j) (a ++ t.take j) (acc ++ [x]) (by rw [List.length_drop]; omega) (by rw [← hat]; exact hb) (by rw [← hat]; exact hl) (by rw [List.length_append, hac j hj, List.length_singleton]; omega)
      rw [← hat, hac j hj, List.append_assoc, show ((a.length + j : Nat) : Int) = (a.length : Int) + (j : Int) by omega] at this
      exact this
    have hhead : rd (a ++ t) ((a.length : Int) + (m : Int)) = (t.drop m).head?.getD 0 := by
      rw [hat m, show (a.length : Int) + (m : Int) = ((a ++ t.take m).length : Int) by rw [hac m (by omega)]; omega]
      rcases hu : t.drop m with _ | ⟨c, u⟩
      · rw [List.append_nil]; exact rd_end _
      · exact rd_append _ _ _
    refine Evt.succ ?_
    simp only [abridgerref13_Runes.l0]
    refine Evt.pos (by omega) (Evt.bind hnx ?_)
    rw [hm', wrap64_in (n := (a.length : Int) + (m : Int)) (by omega) (by omega), wrap64_in (n := (a.length : Int) + (m : Int) + 1) (by omega) (by omega)]
    have lim : acc.length < 8796093022208 := by omega
    by_cases r0 : (dec t).1 = 0
    · rw [runes_one ht (by rw [r0]; exact fun h => absurd h.1 (by decide)), hmN, hm', r0]
      exact Evt.pos rfl (Evt.pos lim (rest m (mkR (65533, (a.length : Int))) (by omega) (by omega)))
    refine Evt.neg r0 ?_
    by_cases r12 : (dec t).1 = 12
    · rw [runes_one ht (by rw [r12]; exact fun h => absurd h.1 (by decide)), hmN, hm', r12]
      exact Evt.pos rfl (Evt.pos lim (rest m (mkR (10, (a.length : Int))) (by omega) (by omega)))
    refine Evt.neg r12 ?_
    by_cases r13 : (dec t).1 = 13
    · refine Evt.pos r13 ?_
      by_cases hh : (t.drop m).head? = some 10
      · have hdl2 : m < t.length := by
          rcases hu : t.drop m with _ | ⟨c, u⟩
          · rw [hu] at hh; simp at hh
          · have := congrArg List.length hu
            rw [List.length_drop, List.length_cons] at this
            omega
        rw [runes_pair ht ⟨r13, by rw [hmN]; exact hh⟩, hmN, hm', List.drop_drop]
        refine Evt.pos (by omega) (Evt.pos (by omega) (Evt.pos (by rw [hhead, hh]; rfl) (Evt.pos lim ?_)))
        have := rest (m + 1) (mkR (10, (a.length : Int))) (by omega) (by omega)
        rw [show (a.length : Int) + ((m + 1 : Nat) : Int) = (a.length : Int) + (m : Int) + 1 by omega] at this
        exact this
      · rw [runes_one ht (by rw [hmN]; exact fun h => hh h.2), hmN, hm', r13]
        have main := rest m (mkR (10, (a.length : Int))) (by omega) (by omega)
        by_cases hin : (a.length : Int) + (m : Int) < ((a ++ t).length : Int)
        · refine Evt.pos hin (Evt.pos (by omega) (Evt.neg ?_ (Evt.pos lim main)))
          rw [hhead]
          intro h
          rcases hu : t.drop m with _ | ⟨c, u⟩
          · rw [hu] at h; simp at h
          · rw [hu] at h hh
            simp at h hh
            exact hh h
        · exact Evt.neg hin (Evt.pos lim main)
    refine Evt.neg r13 ?_
    rw [runes_one ht (fun h => r13 h.1), hmN, hm']
    have := rest m (mkR ((dec t).1, (a.length : Int))) (by omega) (by omega)
    have ecr : cr (dec t).1 = (dec t).1 := by unfold cr; rw [if_neg r0, if_neg r12, if_neg r13]
    rw [ecr]
    exact Evt.pos lim this
theorem ref_runes_ev (l : List Int) (hb : Bytes l) (hl : l.length ≤ 1000000000) : Evt (fun k => abridgerref13_Runes.f k l) ((runes l.length l 0).map mkR) := by
  simp only [abridgerref13_Runes.f]
  exact ref_runes_l0 l.length l [] [] (Nat.le_refl _) hb hl (Nat.le_refl _)
theorem ref_text_l (L : List (Int × Int)) (hl : L.length ≤ 1000000000) (d : Nat) : ∀ (i : Nat) (acc : List Int), i + d = L.length → acc.length ≤ 4 * i →
    Evt (fun k => abridgerref13_Text.l0 k (L.map mkR) acc (i : Int)) (strOfNums (acc ++ puts ((L.drop i).map Prod.fst))) := by
  induction d with
  | zero =>
    intro i acc hi ha
    refine Evt.succ ?_
    simp only [abridgerref13_Text.l0, List.length_map]
    rw [List.drop_of_length_le (by omega), List.map_nil]
    simp only [puts, List.flatMap_nil, List.append_nil]
    exact Evt.neg (by omega) (Evt.const _)
  | succ d ih =>
    intro i acc hi ha
    have hlt : i < L.length := by omega
    have hp := put_length L[i].1
    have hn := ih (i + 1) (acc ++ put L[i].1) (by omega) (by rw [List.length_append]; omega)
    rw [List.append_assoc, ← puts_cons, show L[i].1 :: (L.drop (i + 1)).map Prod.fst = (L.drop i).map Prod.fst by rw [List.drop_eq_getElem_cons hlt, List.map_cons], show ((i + 1 : Nat) : Int) = (i : Int) + 1 by omega] at hn
    have hput := ref_put_ev acc L[i].1 (by omega)
    refine Evt.succ ?_
    simp only [abridgerref13_Text.l0, rd_R i hlt]
    rw [wrap64_in (n := (i : Int) + 1) (by omega) (by omega)]
    have hlm : (L.map mkR).length = L.length := List.length_map _
    refine Evt.pos (by omega) (Evt.pos (by omega) (Evt.bind hput ?_))
    exact hn
theorem ref_text_ev (L : List (Int × Int)) (hl : L.length ≤ 1000000000) : Evt (fun k => abridgerref13_Text.f k (L.map mkR)) (strOfNums (puts (L.map Prod.fst))) := by
  simp only [abridgerref13_Text.f]
  have := ref_text_l L hl L.length 0 [] (by omega) (by simp)
  simpa using this
theorem tells_true (a : List Int) (b : List S30) : Evt (fun k => abridgerlaw13_CinputTells.j0 k a b true true) true := by
  refine Evt.succ ?_
  simp only [abridgerlaw13_CinputTells.j0]
  exact Evt.pos (by simp) (Evt.const _)
theorem CinputTells (a : List Int) (b : List S30) (hw : ∀ x ∈ a, (Lit.int .u8 x).wf = true) : ∃ k, abridgerlaw13_CinputTells.f k a b = some true := by
  have ha := Bytes.of_wf hw
  apply Evt.ex
  simp only [abridgerlaw13_CinputTells.f]
  refine Evt.bind alive_ev (Evt.pos rfl ?_)
  by_cases h1 : (a.length : Int) > 400
  · exact Evt.pos h1 (tells_true a b)
  refine Evt.neg h1 ?_
  by_cases h2 : (b.length : Int) > 400
  · rw [decide_eq_true h2]
    exact tells_true a b
  rw [decide_eq_false h2]
  obtain ⟨L, rfl⟩ : ∃ L : List (Int × Int), b = L.map mkR := ⟨b.map fun x => (x.f0, x.f1), by simp [mkR, Function.comp_def]⟩
  have hL : L.length ≤ 400 := by
    rw [List.length_map] at h2
    omega
  have hR := runes_length a.length a 0
  refine Evt.succ ?_
  simp only [abridgerlaw13_CinputTells.j0, List.nil_append, List.length_nil, Nat.zero_add, List.length_map]
  refine Evt.neg (by simp) (Evt.pos (by omega) (Evt.bind (runes_ev a ha (by omega)) (Evt.bind (ref_runes_ev a ha (by omega)) (Evt.bind (same_ev _ (by omega)) (Evt.pos rfl (Evt.pos (by omega) (Evt.bind (ctext_ev L (by omega)) (Evt.bind (ref_text_ev L (by omega)) (Evt.of (by simp))))))))))
end Go.Proofs.Ytanepjclkciecaa.Pure
