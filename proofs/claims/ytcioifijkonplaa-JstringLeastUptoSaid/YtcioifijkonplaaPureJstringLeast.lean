/- (MERGED: one text of several.) No text that stands for the same units is shorter: for any bytes, 1048576 of them at the most (more than 300 are let through, but JUnits reads them ahead of that). -/
import Derived.Test.YtcioifijkonplaaQx20
import Derived.Test.YtcioifijkonplaaQx7
import Derived.Test.YtcioifijkonplaaQx1
import Derived.Test.YtcioifijkonplaaQx2
import Derived.Test.YtcioifijkonplaaQx3
import Derived.Test.YtcioifijkonplaaQx6
import Derived.Test.YtcioifijkonplaaQx5
import Derived.Test.YtcioifijkonplaaQx4
import Derived.Laws.BitsLemmas
import Derived.Lib.Bytes
import Derived.Test.YtcioifijkonplaaWWords
import Derived.Test.YtcioifijkonplaaQx17
import Derived.Test.YtcioifijkonplaaQx15
import Derived.Test.YtcioifijkonplaaQx14
import Derived.Test.YtcioifijkonplaaQx16
import Derived.Test.YtcioifijkonplaaQx18
import Derived.Test.YtcioifijkonplaaQx11
import Derived.Test.YtcioifijkonplaaQx12
import Derived.Test.YtcioifijkonplaaQx13
import Derived.Test.YtcioifijkonplaaQx9
/- Plain lemmas on numbers of rounds, lists of bytes and wrapped sums: no program stands here. -/
namespace Go.Proofs.Ytcioifijkonplaa.Base
open Go.RowKit Go.Proofs.YtcioifijkonplaaW.PrintWords

/-- With rounds enough the answer is r. -/
def Evt {α : Type} (g : Nat → Option α) (r : α) : Prop := ∃ K, ∀ k, K ≤ k → g k = some r
theorem Evt.ex {α : Type} {g : Nat → Option α} {r : α} (h : Evt g r) : ∃ k, g k = some r := by
  obtain ⟨K, h⟩ := h
  exact ⟨K, h K (Nat.le_refl _)⟩
theorem Evt.const {α : Type} (r : α) : Evt (fun _ => some r) r := ⟨0, fun _ _ => rfl⟩
theorem Evt.of {α : Type} {x : Option α} {r : α} (h : x = some r) : Evt (fun _ => x) r := ⟨0, fun _ _ => h⟩
theorem Evt.bind {α β : Type} {g : Nat → Option α} {f : Nat → α → Option β} {a : α} {r : β} (h : Evt g a) (k : Evt (fun n => f n a) r) : Evt (fun n => (g n).bind (f n)) r := by
  obtain ⟨K, h⟩ := h
  obtain ⟨L, k⟩ := k
  refine ⟨max K L, fun n hn => ?_⟩
  have h1 := h n (by omega)
  have h2 := k n (by omega)
  simp only [h1, Option.bind_some, h2]
theorem Evt.succ {α : Type} {g : Nat → Option α} {r : α} (h : Evt (fun k => g (k + 1)) r) : Evt g r := by
  obtain ⟨K, h⟩ := h
  refine ⟨K + 1, fun k hk => ?_⟩
  obtain ⟨m, rfl⟩ : ∃ m, k = m + 1 := ⟨k - 1, by omega⟩
  exact h m (by omega)
theorem Evt.congr {α : Type} {g g' : Nat → Option α} {r : α} (h : Evt g' r) (e : ∀ k, g k = g' k) : Evt g r := by
  obtain ⟨K, h⟩ := h
  exact ⟨K, fun k hk => (e k).trans (h k hk)⟩
theorem Evt.pos {α : Type} {c : Prop} [Decidable c] {g f : Nat → Option α} {r : α} (hc : c) (h : Evt g r) : Evt (fun k => if c then g k else f k) r := by
  simp only [if_pos hc]
  exact h
theorem Evt.neg {α : Type} {c : Prop} [Decidable c] {g f : Nat → Option α} {r : α} (hc : ¬ c) (h : Evt f r) : Evt (fun k => if c then g k else f k) r := by
  simp only [if_neg hc]
  exact h
theorem Evt.unique {α : Type} {g : Nat → Option α} {r s : α} (h : Evt g r) (k : Evt g s) : r = s := by
  obtain ⟨K, h⟩ := h
  obtain ⟨L, k⟩ := k
  have h1 := h (max K L) (by omega)
  have h2 := k (max K L) (by omega)
  rw [h1] at h2
  exact Option.some.inj h2

theorem wrap64_in {n : Int} (h0 : -9223372036854775808 ≤ n) (h1 : n ≤ 9223372036854775807) : wrap64 n = n := by
  unfold wrap64
  omega

/-- Every element is a byte. -/
def Bytes (l : List Int) : Prop := ∀ x ∈ l, 0 ≤ x ∧ x < 256
theorem Bytes.nil : Bytes [] := fun _ h => by simp at h
theorem Bytes.append {a b : List Int} (ha : Bytes a) (hb : Bytes b) : Bytes (a ++ b) := fun x hx => by
  rcases List.mem_append.1 hx with h | h
  · exact ha x h
  · exact hb x h
theorem Bytes.cons {a : Int} {b : List Int} (ha : 0 ≤ a ∧ a < 256) (hb : Bytes b) : Bytes (a :: b) := fun x hx => by
  rcases List.mem_cons.1 hx with h | h
  · subst h; exact ha
  · exact hb x h
theorem Bytes.head {a : Int} {b : List Int} (h : Bytes (a :: b)) : 0 ≤ a ∧ a < 256 := h a (by simp)
theorem Bytes.tail {a : Int} {b : List Int} (h : Bytes (a :: b)) : Bytes b := fun x hx => h x (by simp [hx])
theorem Bytes.left {a b : List Int} (h : Bytes (a ++ b)) : Bytes a := fun x hx => h x (by simp [hx])
theorem Bytes.right {a b : List Int} (h : Bytes (a ++ b)) : Bytes b := fun x hx => h x (by simp [hx])
theorem Bytes.of_wf {l : List Int} (h : ∀ x ∈ l, (Lit.int .u8 x).wf = true) : Bytes l := fun x hx => by
  have := h x hx
  simp [Lit.wf, IntKind.min, IntKind.max, IntKind.bits, IntKind.signed] at this
  omega
theorem Bytes.drop {l : List Int} (h : Bytes l) (n : Nat) : Bytes (l.drop n) := fun x hx => h x (List.mem_of_mem_drop hx)
theorem Bytes.take {l : List Int} (h : Bytes l) (n : Nat) : Bytes (l.take n) := fun x hx => h x (List.mem_of_mem_take hx)
theorem i64_of_wf {x : Int} (h : (Lit.int .i64 x).wf = true) : -9223372036854775808 ≤ x ∧ x ≤ 9223372036854775807 := by
  simp [Lit.wf, IntKind.min, IntKind.max, IntKind.bits, IntKind.signed] at h
  omega

theorem rd_append (a : List Int) (c : Int) (t : List Int) : rd (a ++ c :: t) (a.length : Int) = c := by
  simp [rd]
theorem rd_end (a : List Int) : rd a (a.length : Int) = 0 := by
  simp [rd]
theorem rd_append' (a t : List Int) (j : Nat) : rd (a ++ t) ((a.length : Int) + (j : Int)) = rd t (j : Int) := by
  have : ((a.length : Int) + (j : Int)).toNat = a.length + j := by omega
  simp only [rd, this, Int.toNat_natCast]
  simp [List.getD_eq_getElem?_getD, List.getElem?_append_right]
theorem split_at {l : List Int} {i : Int} (h0 : 0 ≤ i) (h1 : i < (l.length : Int)) : ∃ a c t, l = a ++ c :: t ∧ i = (a.length : Int) := by
  obtain ⟨n, rfl⟩ := Int.eq_ofNat_of_zero_le h0
  have h2 : n < l.length := by omega
  refine ⟨l.take n, l[n], l.drop (n + 1), ?_, ?_⟩
  · rw [← List.drop_eq_getElem_cons h2, List.take_append_drop]
  · simp; omega

theorem u8_nat {x : Int} (h0 : 0 ≤ x) (h1 : x < 256) : ((UInt8.ofNat x.toNat).toNat : Int) = x := by
  rw [UInt8.toNat_ofNat', Nat.mod_eq_of_lt (by omega)]
  omega
theorem str_toList (xs : List Int) : (strOfNums xs).toList = Lib.bytesOf xs := Lib.strOfNums_toList xs
theorem str_size (xs : List Int) : (strOfNums xs).size = xs.length := by
  simp [strOfNums, ByteArray.size]
theorem bytes_of_str {xs : List Int} (h : Bytes xs) : Go.Proofs.YtcioifijkonplaaW.PrintWords.bytesOf (strOfNums xs) = xs := by
  unfold Go.Proofs.YtcioifijkonplaaW.PrintWords.bytesOf strOfNums
  simp only [List.map_map]
  have : ∀ x ∈ xs, ((fun b : UInt8 => (b.toNat : Int)) ∘ fun n : Int => UInt8.ofNat n.toNat) x = x := fun x hx => u8_nat (h x hx).1 (h x hx).2
  rw [List.map_congr_left this]
  simp
theorem u8s_inj {a b : List Int} (ha : Bytes a) (hb : Bytes b) (h : Lib.bytesOf a = Lib.bytesOf b) : a = b := by
  have h2 := congrArg (List.map fun b : UInt8 => (b.toNat : Int)) h
  unfold Lib.bytesOf at h2
  simp only [List.map_map] at h2
  have key : ∀ l : List Int, Bytes l → List.map ((fun b : UInt8 => (b.toNat : Int)) ∘ fun n : Int => UInt8.ofNat n.toNat) l = l := by
    intro l hl
    have : ∀ x ∈ l, ((fun b : UInt8 => (b.toNat : Int)) ∘ fun n : Int => UInt8.ofNat n.toNat) x = x := fun x hx => u8_nat (hl x hx).1 (hl x hx).2
    rw [List.map_congr_left this]
    simp
  rw [key a ha, key b hb] at h2
  exact h2
/-- One text of bytes before another one. -/
def lexLt : List Int → List Int → Bool
  | _, [] => false
  | [], _ :: _ => true
  | a :: x, b :: y => decide (a < b) || (decide (a = b) && lexLt x y)
theorem bytesLess_u8s {a b : List Int} (ha : Bytes a) (hb : Bytes b) : Op.bytesLess (Lib.bytesOf a) (Lib.bytesOf b) = lexLt a b := by
  induction a generalizing b with
  | nil => cases b <;> rfl
  | cons x a ih =>
    cases b with
    | nil => rfl
    | cons y b =>
      have hx := ha.head
      have hy := hb.head
      have h1 := u8_nat hx.1 hx.2
      have h2 := u8_nat hy.1 hy.2
      show (decide (UInt8.ofNat x.toNat < UInt8.ofNat y.toNat) || (UInt8.ofNat x.toNat == UInt8.ofNat y.toNat && Op.bytesLess (Lib.bytesOf a) (Lib.bytesOf b))) = _
      rw [ih ha.tail hb.tail]
      have e1 : decide (UInt8.ofNat x.toNat < UInt8.ofNat y.toNat) = decide (x < y) := by
        rw [decide_eq_decide, UInt8.lt_iff_toNat_lt]
        omega
      have e2 : (UInt8.ofNat x.toNat == UInt8.ofNat y.toNat) = decide (x = y) := by
        rw [Bool.eq_iff_iff, beq_iff_eq, decide_eq_true_iff]
        constructor
        · intro h
          rw [h] at h1
          omega
        · rintro rfl
          rfl
      rw [e1, e2]
      rfl
theorem str_extract (xs : List Int) (n : Nat) : ((strOfNums xs).extract 0 n).toList = Lib.bytesOf (xs.take n) := by
  rw [Lib.toList_data, Lib.extract_data, Lib.bytesOf_take]
  rfl

/-- A mask leaves a number from 0 to the mask. -/
theorem and_range (x : Int) (m : Nat) (hm : m < 4611686018427387904) : 0 ≤ bits .and .i64 x (m : Int) ∧ bits .and .i64 x (m : Int) ≤ (m : Int) := by
  have h1 : (BitVec.ofInt IntKind.i64.bits x &&& BitVec.ofInt IntKind.i64.bits ((m : Nat) : Int)).toNat ≤ m := by
    rw [BitVec.toNat_and, BitVec.ofInt_natCast, BitVec.toNat_ofNat]
    refine Nat.le_trans Nat.and_le_right ?_
    exact Nat.mod_le _ _
  have h2 : bits .and .i64 x (m : Int) = IntKind.i64.wrap ((BitVec.ofInt IntKind.i64.bits x &&& BitVec.ofInt IntKind.i64.bits ((m : Nat) : Int)).toNat : Int) := rfl
  rw [h2, IntKind.wrap_i64]
  generalize (BitVec.ofInt IntKind.i64.bits x &&& BitVec.ofInt IntKind.i64.bits ((m : Nat) : Int)).toNat = q at h1
  omega

end Go.Proofs.Ytcioifijkonplaa.Base

/- UTF-8 in plain Lean: how a code point is written (put), which one begins a text (dec), and what these have to do with each other. No program stands here. -/
namespace Go.Proofs.Ytcioifijkonplaa.Utf
open Go.RowKit Go.Proofs.YtcioifijkonplaaW.PrintWords Go.Proofs.Ytcioifijkonplaa.Base

def isCp (r : Int) : Prop := 0 ≤ r ∧ r ≤ 1114111 ∧ (r < 55296 ∨ 57343 < r)
instance (r : Int) : Decidable (isCp r) := by unfold isCp; infer_instance
def enc (r : Int) : List Int :=
  if r < 128 then [r]
  else if r < 2048 then [192 + r / 64, 128 + r % 64]
  else if r < 65536 then [224 + r / 4096, 128 + r / 64 % 64, 128 + r % 64]
  else [240 + r / 262144, 128 + r / 4096 % 64, 128 + r / 64 % 64, 128 + r % 64]
def fix (r : Int) : Int := if isCp r then r else 65533
def put (r : Int) : List Int := enc (fix r)
def size (r : Int) : Int := if r < 128 then 1 else if r < 2048 then 2 else if r < 65536 then 3 else 4
def cont (c : Int) : Prop := 128 ≤ c ∧ c < 192
instance (c : Int) : Decidable (cont c) := by unfold cont; infer_instance
def bad : Int × Int × Bool := (65533, 1, false)
/-- What is made of the bits of n bytes. -/
def fin (r n : Int) : Int × Int × Bool := if isCp r ∧ size r = n then (r, n, true) else bad
/-- The code point that begins a text. -/
def dec : List Int → Int × Int × Bool
  | [] => (0, 0, false)
  | c :: t =>
    if c < 128 then (c, 1, true)
    else if 194 ≤ c ∧ c < 224 then
      match t with
      | d :: _ => if cont d then fin ((c - 192) * 64 + (d - 128)) 2 else bad
      | [] => bad
    else if 224 ≤ c ∧ c < 240 then
      match t with
      | d :: e :: _ => if cont d ∧ cont e then fin ((c - 224) * 4096 + (d - 128) * 64 + (e - 128)) 3 else bad
      | _ => bad
    else if 240 ≤ c ∧ c < 245 then
      match t with
      | d :: e :: f :: _ => if cont d ∧ cont e ∧ cont f then fin ((c - 240) * 262144 + (d - 128) * 4096 + (e - 128) * 64 + (f - 128)) 4 else bad
      | _ => bad
    else bad
/-- The code point that begins at a place. -/
def nx (l : List Int) (i : Int) : Int × Int × Bool := if i < 0 ∨ (l.length : Int) ≤ i then (0, 0, false) else dec (l.drop i.toNat)

theorem fix_cp (r : Int) : isCp (fix r) := by
  unfold fix
  split
  · assumption
  · decide
theorem fix_of {r : Int} (h : isCp r) : fix r = r := if_pos h
theorem enc_size {r : Int} : ((enc r).length : Int) = size r := by
  unfold enc size
  (repeat' split) <;> simp
theorem enc_bytes {r : Int} (h : isCp r) : Bytes (enc r) := by
  unfold isCp at h
  unfold enc
  (repeat' split) <;> (intro x hx; simp only [List.mem_cons, List.not_mem_nil, or_false] at hx)
  · omega
  · rcases hx with rfl | rfl <;> omega
  · rcases hx with rfl | rfl | rfl <;> omega
  · rcases hx with rfl | rfl | rfl | rfl <;> omega
theorem put_bytes (r : Int) : Bytes (put r) := enc_bytes (fix_cp r)
theorem put_size (r : Int) : ((put r).length : Int) = size (fix r) := enc_size
theorem size_range (r : Int) : 1 ≤ size r ∧ size r ≤ 4 := by
  unfold size
  (repeat' split) <;> omega
theorem put_length (r : Int) : 1 ≤ (put r).length ∧ (put r).length ≤ 4 := by
  have := put_size r
  have := size_range (fix r)
  omega
/-- What was written is read. -/
theorem dec_enc {r : Int} (h : isCp r) (t : List Int) : dec (enc r ++ t) = (r, size r, true) := by
  have h' := h
  unfold isCp at h'
  unfold enc size
  split
  · simp [dec, *]
  · split
    · have e1 : ¬ (192 + r / 64 < 128) := by omega
      have e2 : 194 ≤ 192 + r / 64 ∧ 192 + r / 64 < 224 := by omega
      have e3 : cont (128 + r % 64) := by unfold cont; omega
      have e4 : (192 + r / 64 - 192) * 64 + (128 + r % 64 - 128) = r := by omega
      simp only [List.cons_append, List.nil_append, dec, if_neg e1, if_pos e2, if_pos e3, e4]
      unfold fin
      rw [if_pos ⟨h, by unfold size; rw [if_neg (by omega), if_pos (by omega)]⟩]
    · split
      · have e1 : ¬ (224 + r / 4096 < 128) := by omega
        have e2 : ¬ (194 ≤ 224 + r / 4096 ∧ 224 + r / 4096 < 224) := by omega
        have e3 : 224 ≤ 224 + r / 4096 ∧ 224 + r / 4096 < 240 := by omega
        have e5 : cont (128 + r / 64 % 64) ∧ cont (128 + r % 64) := by unfold cont; omega
        have e4 : (224 + r / 4096 - 224) * 4096 + (128 + r / 64 % 64 - 128) * 64 + (128 + r % 64 - 128) = r := by omega
        simp only [List.cons_append, List.nil_append, dec, if_neg e1, if_neg e2, if_pos e3, if_pos e5, e4]
        unfold fin
        rw [if_pos ⟨h, by unfold size; rw [if_neg (by omega), if_neg (by omega), if_pos (by omega)]⟩]
      · have e1 : ¬ (240 + r / 262144 < 128) := by omega
        have e2 : ¬ (194 ≤ 240 + r / 262144 ∧ 240 + r / 262144 < 224) := by omega
        have e3 : ¬ (224 ≤ 240 + r / 262144 ∧ 240 + r / 262144 < 240) := by omega
        have e6 : 240 ≤ 240 + r / 262144 ∧ 240 + r / 262144 < 245 := by omega
        have e5 : cont (128 + r / 4096 % 64) ∧ cont (128 + r / 64 % 64) ∧ cont (128 + r % 64) := by unfold cont; omega
        have e4 : (240 + r / 262144 - 240) * 262144 + (128 + r / 4096 % 64 - 128) * 4096 + (128 + r / 64 % 64 - 128) * 64 + (128 + r % 64 - 128) = r := by omega
        simp only [List.cons_append, List.nil_append, dec, if_neg e1, if_neg e2, if_neg e3, if_pos e6, if_pos e5, e4]
        unfold fin
        rw [if_pos ⟨h, by unfold size; rw [if_neg (by omega), if_neg (by omega), if_neg (by omega)]⟩]
theorem dec_put (r : Int) (t : List Int) : dec (put r ++ t) = (fix r, size (fix r), true) := dec_enc (fix_cp r) t
/-- What is read well stands there as it is written. -/
theorem enc_dec {l : List Int} (hb : Bytes l) {r n : Int} (h : dec l = (r, n, true)) : isCp r ∧ n = size r ∧ ∃ t, l = enc r ++ t := by
  match l with
  | [] => simp [dec] at h
  | c :: t =>
    have hc := hb.head
    simp only [dec] at h
    split at h
    · simp only [Prod.mk.injEq] at h
      obtain ⟨rfl, rfl, _⟩ := h
      refine ⟨⟨by omega, by omega, by omega⟩, by simp [size, *], t, by simp [enc, *]⟩
    · split at h
      · match t with
        | [] => simp [bad] at h
        | d :: t =>
          simp only at h
          split at h
          · rename_i hd
            unfold cont at hd
            unfold fin at h
            split at h
            · rename_i hr
              simp only [Prod.mk.injEq] at h
              obtain ⟨rfl, rfl, _⟩ := h
              refine ⟨hr.1, hr.2.symm, t, ?_⟩
              unfold enc
              rw [if_neg (by omega), if_pos (by omega)]
              simp only [List.cons_append, List.nil_append, List.cons.injEq, and_true]
              omega
            · simp [bad] at h
          · simp [bad] at h
      · split at h
        · match t with
          | [] => simp [bad] at h
          | [_] => simp [bad] at h
          | d :: e :: t =>
            simp only at h
            split at h
            · rename_i hd
              unfold cont at hd
              unfold fin at h
              split at h
              · rename_i hr
                simp only [Prod.mk.injEq] at h
                obtain ⟨rfl, rfl, _⟩ := h
                refine ⟨hr.1, hr.2.symm, t, ?_⟩
                have hs := hr.2
                unfold size at hs
                unfold enc
                split at hs
                · omega
                · split at hs
                  · omega
                  · split at hs
                    · rw [if_neg (by omega), if_neg (by omega), if_pos (by omega)]
                      simp only [List.cons_append, List.nil_append, List.cons.injEq, and_true]
                      omega
                    · omega
              · simp [bad] at h
            · simp [bad] at h
        · split at h
          · match t with
            | [] => simp [bad] at h
            | [_] => simp [bad] at h
            | [_, _] => simp [bad] at h
            | d :: e :: f :: t =>
              simp only at h
              split at h
              · rename_i hd
                unfold cont at hd
                unfold fin at h
                split at h
                · rename_i hr
                  simp only [Prod.mk.injEq] at h
                  obtain ⟨rfl, rfl, _⟩ := h
                  refine ⟨hr.1, hr.2.symm, t, ?_⟩
                  have hs := hr.2
                  unfold size at hs
                  unfold enc
                  split at hs
                  · omega
                  · split at hs
                    · omega
                    · split at hs
                      · omega
                      · rw [if_neg (by omega), if_neg (by omega), if_neg (by omega)]
                        simp only [List.cons_append, List.nil_append, List.cons.injEq, and_true]
                        omega
                · simp [bad] at h
              · simp [bad] at h
          · simp [bad] at h
/-- How many bytes are read: at least one, of a text that isn't empty, and no more than there are. -/
theorem dec_len {l : List Int} (hb : Bytes l) (h : l ≠ []) : 1 ≤ (dec l).2.1 ∧ (dec l).2.1 ≤ (l.length : Int) ∧ (dec l).2.1 ≤ 4 := by
  rcases hd : dec l with ⟨r, n, ok⟩
  cases ok with
  | true =>
    obtain ⟨hr, rfl, t, rfl⟩ := enc_dec hb hd
    have := size_range r
    have := @enc_size r
    simp only [List.length_append]
    omega
  | false =>
    have : n = 1 := by
      match l with
      | [] => exact absurd rfl h
      | c :: t =>
        simp only [dec] at hd
        unfold fin bad at hd
        repeat' split at hd
        all_goals simp_all
    subst this
    cases l with
    | nil => exact absurd rfl h
    | cons c t => simp only [List.length_cons]; omega
theorem dec_false {l : List Int} (h : l ≠ []) (hd : (dec l).2.2 = false) : dec l = bad := by
  match l with
  | [] => exact absurd rfl h
  | c :: t =>
    have key : ∀ x, dec (c :: t) = x → x.2.2 = false → x = bad := by
      intro x hx hf
      simp only [dec, fin] at hx
      repeat' split at hx
      all_goals (subst hx; first | rfl | (simp at hf))
    exact key _ rfl hd
theorem dec_true_pos {l : List Int} (hd : (dec l).2.2 = true) : l ≠ [] := by
  rintro rfl
  simp [dec] at hd
theorem nx_at (a t : List Int) : nx (a ++ t) (a.length : Int) = dec t := by
  unfold nx
  cases t with
  | nil => rw [if_pos (by right; simp)]; rfl
  | cons c t => rw [if_neg (by simp; omega)]; simp
theorem nx_out {l : List Int} {i : Int} (h : i < 0 ∨ (l.length : Int) ≤ i) : nx l i = (0, 0, false) := if_pos h

/-- Texts of code points. -/
def encAll (l : List Int) : List Int := l.flatMap enc
theorem encAll_nil : encAll [] = [] := rfl
theorem encAll_cons (r : Int) (l : List Int) : encAll (r :: l) = enc r ++ encAll l := rfl
theorem encAll_append (a b : List Int) : encAll (a ++ b) = encAll a ++ encAll b := by simp [encAll]
/-- Each text is code points, then nothing or what is wrong. -/
theorem parts (l : List Int) (hb : Bytes l) : ∃ rs t, l = encAll rs ++ t ∧ (∀ r ∈ rs, isCp r) ∧ (dec t).2.2 = false := by
  have key : ∀ n : Nat, ∀ l : List Int, l.length ≤ n → Bytes l → ∃ rs t, l = encAll rs ++ t ∧ (∀ r ∈ rs, isCp r) ∧ (dec t).2.2 = false := by
    intro n
    induction n with
    | zero =>
      intro l hn hb
      have : l = [] := List.length_eq_zero_iff.1 (by omega)
      subst this
      exact ⟨[], [], rfl, fun _ h => by simp at h, rfl⟩
    | succ n ih =>
      intro l hn hb
      rcases hd : dec l with ⟨r, m, ok⟩
      cases ok with
      | false => exact ⟨[], l, rfl, fun _ h => by simp at h, by rw [hd]⟩
      | true =>
        obtain ⟨hr, rfl, t, rfl⟩ := enc_dec hb hd
        have h1 := @enc_size r
        have h2 := size_range r
        obtain ⟨rs, u, rfl, hrs, hu⟩ := ih t (by simp only [List.length_append] at hn; omega) hb.right
        refine ⟨r :: rs, u, by rw [encAll_cons, List.append_assoc], ?_, hu⟩
        intro x hx
        rcases List.mem_cons.1 hx with rfl | h
        · exact hr
        · exact hrs x h
  exact key l.length l (Nat.le_refl _) hb

theorem encAll_bytes {rs : List Int} (h : ∀ r ∈ rs, isCp r) : Bytes (encAll rs) := by
  induction rs with
  | nil => exact Bytes.nil
  | cons r rs ih =>
    rw [encAll_cons]
    exact (enc_bytes (h r (by simp))).append (ih fun x hx => h x (by simp [hx]))
/-- No beginning of what is written for a code point is one, but the whole. -/
theorem dec_part {r : Int} (hr : isCp r) {j : Nat} (hj : j < (enc r).length) : (dec ((enc r).take j)).2.2 = false := by
  rcases hd : dec ((enc r).take j) with ⟨r', n, ok⟩
  cases ok with
  | false => rfl
  | true =>
    obtain ⟨hr', rfl, t, ht⟩ := enc_dec ((enc_bytes hr).take j) hd
    have h1 := dec_enc hr []
    rw [List.append_nil, ← List.take_append_drop j (enc r), ht, List.append_assoc, dec_enc hr'] at h1
    have h2 : size r' = size r := by
      simp only [Prod.mk.injEq] at h1
      exact h1.2.1
    have h3 := congrArg List.length ht
    simp only [List.length_append, List.length_take] at h3
    have h4 := @enc_size r
    have h5 := @enc_size r'
    omega
theorem enc_inj {r s : Int} (hr : isCp r) (hs : isCp s) (h : enc r = enc s) : r = s := by
  have h1 := dec_enc hr []
  rw [h, dec_enc hs []] at h1
  simp only [Prod.mk.injEq] at h1
  exact h1.1.symm

/-- A text is code points and what is wrong in one way alone. -/
theorem parts_unique {rb rc tb tc : List Int} (h1 : ∀ x ∈ rb, isCp x) (h2 : ∀ x ∈ rc, isCp x) (h3 : (dec tb).2.2 = false) (h4 : (dec tc).2.2 = false) (h5 : encAll rb ++ tb = encAll rc ++ tc) : rb = rc ∧ tb = tc := by
  induction rb generalizing rc with
  | nil =>
    cases rc with
    | nil => exact ⟨rfl, h5⟩
    | cons r rc =>
      rw [encAll_nil, List.nil_append, encAll_cons, List.append_assoc] at h5
      rw [h5, dec_enc (h2 r (by simp))] at h3
      exact absurd h3 (by simp)
  | cons r rb ih =>
    cases rc with
    | nil =>
      rw [encAll_nil, List.nil_append, encAll_cons, List.append_assoc] at h5
      rw [← h5, dec_enc (h1 r (by simp))] at h4
      exact absurd h4 (by simp)
    | cons s rc =>
      rw [encAll_cons, encAll_cons, List.append_assoc, List.append_assoc] at h5
      have h6 := dec_enc (h1 r (by simp)) (encAll rb ++ tb)
      rw [h5, dec_enc (h2 s (by simp))] at h6
      simp only [Prod.mk.injEq] at h6
      obtain ⟨rfl, -, -⟩ := h6
      obtain ⟨h7, h8⟩ := ih (fun x hx => h1 x (by simp [hx])) (fun x hx => h2 x (by simp [hx])) (List.append_cancel_left h5)
      exact ⟨by rw [h7], h8⟩

end Go.Proofs.Ytcioifijkonplaa.Utf

/- The functions of the package utf, as they are printed in plain Lean, answer as the model Utf says. -/
namespace Go.Proofs.Ytcioifijkonplaa.UtfEq
open Go.RowKit Go.Proofs.YtcioifijkonplaaW.PrintWords Go.Proofs.Ytcioifijkonplaa.Base Go.Proofs.Ytcioifijkonplaa.Utf Go.Proofs.Ytcioifijkonplaa.Q

theorem right_eq (r : Int) : utf_right.f r = some (decide (isCp r)) := by
  by_cases h : isCp r
  · rw [decide_eq_true h]
    unfold isCp at h
    unfold utf_right.f
    repeat' split
    all_goals first | rfl | omega | (rw [decide_eq_true (by omega)])
  · rw [decide_eq_false h]
    unfold isCp at h
    unfold utf_right.f
    repeat' split
    all_goals first | rfl | omega | (rw [decide_eq_false (by omega)])
theorem size_eq (r : Int) : utf_size.f r = some (size r) := by
  unfold utf_size.f size
  (repeat' split) <;> rfl

theorem wraps_i64 (n : Int) (h0 : 0 ≤ n) (h1 : n < 2 ^ 31) : IntKind.i64.wrap n = n := by rw [IntKind.wrap_i64]; omega
theorem i64_and63 {x : Int} (h0 : 0 ≤ x) (h1 : x < 2147483648) : bits .and .i64 x 63 = x % 64 :=
  bits_mask .i64 31 (by decide) wraps_i64 6 (by decide) x h0 h1
theorem i64_or128 {y : Int} (h0 : 0 ≤ y) (h1 : y < 64) : bits .or .i64 128 y = 128 + y :=
  bits_join .i64 31 (by decide) wraps_i64 6 128 y (by decide) (by decide) (by decide) h0 h1 (by omega)
theorem i64_or192 {y : Int} (h0 : 0 ≤ y) (h1 : y < 32) : bits .or .i64 192 y = 192 + y :=
  bits_join .i64 31 (by decide) wraps_i64 6 192 y (by decide) (by decide) (by decide) h0 (by omega) (by omega)
theorem i64_or224 {y : Int} (h0 : 0 ≤ y) (h1 : y < 16) : bits .or .i64 224 y = 224 + y :=
  bits_join .i64 31 (by decide) wraps_i64 5 224 y (by decide) (by decide) (by decide) h0 (by omega) (by omega)
theorem i64_or240 {y : Int} (h0 : 0 ≤ y) (h1 : y < 16) : bits .or .i64 240 y = 240 + y :=
  bits_join .i64 31 (by decide) wraps_i64 4 240 y (by decide) (by decide) (by decide) h0 (by omega) (by omega)
theorem i64_or6 {x y : Int} (hx : 0 ≤ x) (hx1 : x < 33554432) (h0 : 0 ≤ y) (h1 : y < 64) : bits .or .i64 (x * 64) y = x * 64 + y :=
  bits_join .i64 31 (by decide) wraps_i64 6 (x * 64) y (by omega) (by omega) (by omega) h0 h1 (by omega)
theorem andNot_cont {c : Int} (h0 : 0 ≤ c) (h1 : c < 256) : bits .andNot .u8 c 63 = 128 ↔ cont c := by
  have key : ∀ n : Fin 256, (bits .andNot .u8 ((n.val : Nat) : Int) 63 = 128) ↔ cont ((n.val : Nat) : Int) := by decide +kernel
  obtain ⟨n, rfl⟩ := Int.eq_ofNat_of_zero_le h0
  exact key ⟨n, by omega⟩
theorem and_cont {c : Int} (h0 : 0 ≤ c) (h1 : c < 256) : bits .and .u8 c 192 = 128 ↔ cont c := by
  have key : ∀ n : Fin 256, (bits .and .u8 ((n.val : Nat) : Int) 192 = 128) ↔ cont ((n.val : Nat) : Int) := by decide +kernel
  obtain ⟨n, rfl⟩ := Int.eq_ofNat_of_zero_le h0
  exact key ⟨n, by omega⟩

/-- The bytes that the code writes are those of the model. -/
theorem bytes2 {r : Int} (h : isCp r) (h1 : 128 ≤ r) (h2 : r < 2048) : [(bits .or .i64 192 (r / 64)) % 256, (bits .or .i64 128 (bits .and .i64 r 63)) % 256] = enc r := by
  unfold isCp at h
  rw [i64_and63 (by omega) (by omega), i64_or192 (by omega) (by omega), i64_or128 (by omega) (by omega)]
  unfold enc
  rw [if_neg (by omega), if_pos (by omega), Int.emod_eq_of_lt (by omega) (by omega), Int.emod_eq_of_lt (by omega) (by omega)]
theorem bytes3 {r : Int} (h : isCp r) (h1 : 2048 ≤ r) (h2 : r < 65536) : [(bits .or .i64 224 (r / 4096)) % 256, (bits .or .i64 128 (bits .and .i64 (r / 64) 63)) % 256, (bits .or .i64 128 (bits .and .i64 r 63)) % 256] = enc r := by
  unfold isCp at h
  rw [i64_and63 (x := r) (by omega) (by omega), i64_and63 (x := r / 64) (by omega) (by omega), i64_or224 (by omega) (by omega), i64_or128 (y := r / 64 % 64) (by omega) (by omega), i64_or128 (y := r % 64) (by omega) (by omega)]
  unfold enc
  rw [if_neg (by omega), if_neg (by omega), if_pos (by omega), Int.emod_eq_of_lt (a := 224 + r / 4096) (by omega) (by omega), Int.emod_eq_of_lt (a := 128 + r / 64 % 64) (by omega) (by omega), Int.emod_eq_of_lt (a := 128 + r % 64) (by omega) (by omega)]
theorem bytes4 {r : Int} (h : isCp r) (h1 : 65536 ≤ r) : [(bits .or .i64 240 (r / 262144)) % 256, (bits .or .i64 128 (bits .and .i64 (r / 4096) 63)) % 256, (bits .or .i64 128 (bits .and .i64 (r / 64) 63)) % 256, (bits .or .i64 128 (bits .and .i64 r 63)) % 256] = enc r := by
  unfold isCp at h
  rw [i64_and63 (x := r) (by omega) (by omega), i64_and63 (x := r / 64) (by omega) (by omega), i64_and63 (x := r / 4096) (by omega) (by omega), i64_or240 (by omega) (by omega), i64_or128 (y := r / 4096 % 64) (by omega) (by omega), i64_or128 (y := r / 64 % 64) (by omega) (by omega), i64_or128 (y := r % 64) (by omega) (by omega)]
  unfold enc
  rw [if_neg (by omega), if_neg (by omega), if_neg (by omega), Int.emod_eq_of_lt (a := 240 + r / 262144) (by omega) (by omega), Int.emod_eq_of_lt (a := 128 + r / 4096 % 64) (by omega) (by omega), Int.emod_eq_of_lt (a := 128 + r / 64 % 64) (by omega) (by omega), Int.emod_eq_of_lt (a := 128 + r % 64) (by omega) (by omega)]
theorem bytes1 {r : Int} (h : isCp r) (h1 : r < 128) : [r % 256] = enc r := by
  unfold isCp at h
  unfold enc
  rw [if_pos h1, Int.emod_eq_of_lt (by omega) (by omega)]
theorem enc_len {r : Int} : (enc r).length ≤ 4 := by
  have := @enc_size r
  have := size_range r
  omega

theorem put_j0 {l : List Int} {r : Int} (h : isCp r) (hl : l.length < 140737488355000) : Evt (fun k => utf_Put.j0 k l r) (l ++ enc r) := by
  apply Evt.succ
  have h' := h
  unfold isCp at h'
  simp only [utf_Put.j0, List.length_nil, Nat.zero_add, List.nil_append, Option.bind_some, size_eq]
  rw [if_pos (by omega)]
  unfold size
  split
  · rw [if_pos rfl, if_pos (by omega), bytes1 h (by assumption)]; exact Evt.const _
  · split
    · simp only [show ¬ ((2 : Int) = 1) by decide, if_false, if_true]
      rw [if_pos (by simp only [List.length_cons, List.length_nil]; omega), bytes2 h (by omega) (by omega)]; exact Evt.const _
    · split
      · simp only [show ¬ ((3 : Int) = 1) by decide, show ¬ ((3 : Int) = 2) by decide, if_false, if_true]
        rw [if_pos (by simp only [List.length_cons, List.length_nil]; omega), bytes3 h (by omega) (by omega)]; exact Evt.const _
      · simp only [show ¬ ((4 : Int) = 1) by decide, show ¬ ((4 : Int) = 2) by decide, show ¬ ((4 : Int) = 3) by decide, if_false]
        rw [if_pos (by simp only [List.length_cons, List.length_nil]; omega), bytes4 h (by omega)]; exact Evt.const _
theorem put_ev (l : List Int) (r : Int) (hl : l.length < 140737488355000) : Evt (fun k => utf_Put.f k l r) (l ++ put r) := by
  simp only [utf_Put.f, right_eq, Option.bind_some, decide_eq_true_iff]
  unfold put fix
  split
  · exact put_j0 (by assumption) hl
  · exact put_j0 (by decide) hl


end Go.Proofs.Ytcioifijkonplaa.UtfEq

/- utf.Text, as it is printed in plain Lean: what is written for each code point, one behind the other. -/
namespace Go.Proofs.Ytcioifijkonplaa.TextEq
open Go.RowKit Go.Proofs.YtcioifijkonplaaW.PrintWords Go.Proofs.Ytcioifijkonplaa.Base Go.Proofs.Ytcioifijkonplaa.Utf Go.Proofs.Ytcioifijkonplaa.UtfEq Go.Proofs.Ytcioifijkonplaa.Q

def puts (rs : List Int) : List Int := rs.flatMap put
theorem puts_cons (r : Int) (rs : List Int) : puts (r :: rs) = put r ++ puts rs := rfl
theorem puts_append (a b : List Int) : puts (a ++ b) = puts a ++ puts b := by simp [puts]
theorem puts_bytes (rs : List Int) : Bytes (puts rs) := by
  induction rs with
  | nil => exact Bytes.nil
  | cons r rs ih => rw [puts_cons]; exact (put_bytes r).append ih
theorem puts_length (rs : List Int) : (puts rs).length ≤ 4 * rs.length := by
  induction rs with
  | nil => simp [puts]
  | cons r rs ih =>
    rw [puts_cons, List.length_append, List.length_cons]
    have := put_length r
    omega
theorem puts_enc {rs : List Int} (h : ∀ r ∈ rs, isCp r) : puts rs = encAll rs := by
  induction rs with
  | nil => rfl
  | cons r rs ih =>
    rw [puts_cons, encAll_cons, ih (fun x hx => h x (by simp [hx]))]
    unfold put
    rw [fix_of (h r (by simp))]
theorem text_l0 (rs : List Int) (hl : rs.length ≤ 1000000000) (d : Nat) : ∀ (i : Nat) (acc : List Int), i + d = rs.length → acc.length ≤ 4 * i →
    Evt (fun k => utf_Text.l0 k acc rs (rs.length : Int) (i : Int)) (strOfNums (acc ++ puts (rs.drop i))) := by
  induction d with
  | zero =>
    intro i acc hi _
    refine Evt.succ ?_
    simp only [utf_Text.l0]
    refine Evt.neg (by omega) ?_
    rw [List.drop_of_length_le (by omega)]
    simp only [puts, List.flatMap_nil, List.append_nil]
    exact Evt.const _
  | succ d ih =>
    intro i acc hi ha
    have hlt : i < rs.length := by omega
    have hr : rd rs (i : Int) = rs[i] := by simp [rd, List.getD_eq_getElem?_getD, hlt]
    have hd : rs.drop i = rs[i] :: rs.drop (i + 1) := List.drop_eq_getElem_cons hlt
    have hp := put_length rs[i]
    have hn := ih (i + 1) (acc ++ put rs[i]) (by omega) (by rw [List.length_append]; omega)
    rw [List.append_assoc, ← puts_cons, ← hd, show ((i + 1 : Nat) : Int) = (i : Int) + 1 by omega] at hn
    have hput := put_ev [] rs[i] (by decide)
    rw [List.nil_append] at hput
    have way : Evt (fun k => (utf_Put.f k ([] : List Int) rs[i]).bind fun t => if acc.length + t.length < 140737488355328 then utf_Text.l0 k (acc ++ t) rs (rs.length : Int) ((i : Int) + 1) else none) (strOfNums (acc ++ puts (rs.drop i))) :=
      Evt.bind hput (Evt.pos (by omega) hn)
    refine Evt.succ ?_
    simp only [utf_Text.l0, hr, right_eq, Option.bind_some]
    rw [wrap64_in (n := (i : Int) + 1) (by omega) (by omega)]
    refine Evt.pos (by omega) (Evt.pos (by omega) (Evt.pos (by omega) ?_))
    by_cases hcp : isCp rs[i]
    · rw [decide_eq_true hcp]
      refine Evt.pos rfl ?_
      by_cases h128 : rs[i] < 128
      · refine Evt.pos h128 (Evt.pos (by omega) ?_)
        rw [bytes1 hcp h128]
        unfold put at hn
        rw [fix_of hcp] at hn
        exact hn
      · exact Evt.neg h128 way
    · rw [decide_eq_false hcp]
      exact Evt.neg (by decide) way
theorem text_ev (rs : List Int) (hl : rs.length ≤ 1000000000) : Evt (fun k => utf_Text.f k rs) (strOfNums (puts rs)) := by
  simp only [utf_Text.f]
  have := text_l0 rs hl rs.length 0 [] (by omega) (by simp)
  simpa using this
end Go.Proofs.Ytcioifijkonplaa.TextEq

/- What the package jstring writes, in plain Lean: no program stands here. -/
namespace Go.Proofs.Ytcioifijkonplaa.Jstr
open Go.RowKit Go.Proofs.YtcioifijkonplaaW.PrintWords Go.Proofs.Ytcioifijkonplaa.Base Go.Proofs.Ytcioifijkonplaa.Utf

/-- All are units. -/
def right (l : List Int) : Prop := ∀ x ∈ l, 0 ≤ x ∧ x ≤ 65535
instance (l : List Int) : Decidable (right l) := inferInstanceAs (Decidable (∀ x ∈ l, 0 ≤ x ∧ x ≤ 65535))
theorem right_cons {x : Int} {l : List Int} : right (x :: l) ↔ (0 ≤ x ∧ x ≤ 65535) ∧ right l := by simp [right]
theorem right_nil : right [] := fun _ h => by simp at h
/-- A digit of base 16. -/
def hexd (n : Int) : Int := if n < 10 then 48 + n else 87 + n
/-- The digits of base 16 of a unit. -/
def four (r : Int) : List Int := [hexd (r / 4096), hexd (r / 256 % 16), hexd (r / 16 % 16), hexd (r % 16)]
/-- The letter behind a backslash. -/
def short (r : Int) : Option Int := if r = 34 then some 34 else if r = 92 then some 92 else if r = 8 then some 98 else if r = 12 then some 102 else if r = 10 then some 110 else if r = 13 then some 114 else if r = 9 then some 116 else none
/-- How a code point, or a single surrogate, is written. -/
def spell (r : Int) : List Int :=
  match short r with
  | some c => [92, c]
  | none => if r < 32 ∨ (55296 ≤ r ∧ r < 57344) then 92 :: 117 :: four r else put r
/-- Pairs of surrogates are one; others stand as they are. -/
def pairs : List Int → List Int
  | [] => []
  | [n] => [n]
  | n :: m :: t => if (55296 ≤ n ∧ n < 56320) ∧ (56320 ≤ m ∧ m < 57344) then (65536 + (n - 55296) * 1024 + m - 56320) :: pairs t else n :: pairs (m :: t)
/-- A whole text. -/
def body (l : List Int) : List Int := (pairs l).flatMap spell
def spelled (l : List Int) : List Int := 34 :: (body l ++ [34])

theorem pairs_len : ∀ l : List Int, (pairs l).length ≤ l.length
  | [] => by simp [pairs]
  | [n] => by simp [pairs]
  | n :: m :: t => by
    rw [pairs]
    split
    · have := pairs_len t
      simp only [List.length_cons]
      omega
    · have := pairs_len (m :: t)
      simp only [List.length_cons] at this ⊢
      omega
/-- What pairs make, and single units, lie where code points and surrogates lie. -/
theorem pairs_range : ∀ {l : List Int}, right l → ∀ x ∈ pairs l, 0 ≤ x ∧ x ≤ 1114111
  | [], _ => by simp [pairs]
  | [n], h => by
    have := (right_cons.1 h).1
    intro x hx
    simp [pairs] at hx
    omega
  | n :: m :: t, h => by
    have h1 := (right_cons.1 h).1
    have h2 := right_cons.1 (right_cons.1 h).2
    intro x hx
    rw [pairs] at hx
    split at hx
    · rcases List.mem_cons.1 hx with e | hx
      · omega
      · exact pairs_range h2.2 x hx
    · rcases List.mem_cons.1 hx with e | hx
      · omega
      · exact pairs_range (right_cons.1 h).2 x hx
theorem spell_len (r : Int) : 1 ≤ (spell r).length ∧ (spell r).length ≤ 6 := by
  unfold spell
  have := put_length r
  split
  · simp
  · split
    · simp [four]
    · omega
theorem hexd_byte {n : Int} (h0 : 0 ≤ n) (h1 : n < 16) : 0 ≤ hexd n ∧ hexd n < 256 := by
  unfold hexd
  split <;> omega
theorem short_byte {r c : Int} (h : short r = some c) : 0 ≤ c ∧ c < 256 := by
  unfold short at h
  split at h
  · simp at h; omega
  split at h
  · simp at h; omega
  split at h
  · simp at h; omega
  split at h
  · simp at h; omega
  split at h
  · simp at h; omega
  split at h
  · simp at h; omega
  split at h
  · simp at h; omega
  · simp at h
theorem spell_bytes {r : Int} (h0 : 0 ≤ r) : Bytes (spell r) := by
  unfold spell
  split
  · rename_i c hc
    exact Bytes.cons (by omega) (Bytes.cons (short_byte hc) Bytes.nil)
  · split
    · rename_i h
      refine Bytes.cons (by omega) (Bytes.cons (by omega) ?_)
      unfold four
      exact Bytes.cons (hexd_byte (by omega) (by omega)) (Bytes.cons (hexd_byte (by omega) (by omega)) (Bytes.cons (hexd_byte (by omega) (by omega)) (Bytes.cons (hexd_byte (by omega) (by omega)) Bytes.nil)))
    · exact put_bytes r
theorem flat_len (l : List Int) : (l.flatMap spell).length ≤ 6 * l.length := by
  induction l with
  | nil => simp
  | cons a l ih =>
    have := spell_len a
    simp only [List.flatMap_cons, List.length_append, List.length_cons]
    omega
theorem flat_bytes {l : List Int} (h : ∀ x ∈ l, 0 ≤ x) : Bytes (l.flatMap spell) := by
  induction l with
  | nil => exact Bytes.nil
  | cons a l ih =>
    rw [List.flatMap_cons]
    exact Bytes.append (spell_bytes (h a (by simp))) (ih fun x hx => h x (by simp [hx]))
theorem body_len (l : List Int) : (body l).length ≤ 6 * l.length := by
  have h1 := flat_len (pairs l)
  have h2 := pairs_len l
  unfold body
  omega
theorem spelled_bytes {l : List Int} (h : right l) : Bytes (spelled l) :=
  Bytes.cons (by omega) (Bytes.append (flat_bytes fun x hx => (pairs_range h x hx).1) (Bytes.cons (by omega) Bytes.nil))
end Go.Proofs.Ytcioifijkonplaa.Jstr

/- The functions of the package jstring, as they are printed in plain Lean, answer as Jstr says. -/
namespace Go.Proofs.Ytcioifijkonplaa.JstrEq
open Go.RowKit Go.Proofs.YtcioifijkonplaaW.PrintWords Go.Proofs.Ytcioifijkonplaa.Base Go.Proofs.Ytcioifijkonplaa.Utf Go.Proofs.Ytcioifijkonplaa.UtfEq Go.Proofs.Ytcioifijkonplaa.TextEq Go.Proofs.Ytcioifijkonplaa.Jstr Go.Proofs.Ytcioifijkonplaa.Q

theorem wrong_eq (c : Int) : jstring_Right_1.f c = some (decide (¬ (0 ≤ c ∧ c ≤ 65535))) := by
  unfold jstring_Right_1.f
  split
  · rw [decide_eq_true (by omega)]
  · congr 1
    rw [decide_eq_decide]
    omega
theorem index_ev (t : List Int) : ∀ a : List Int, ((a ++ t).length : Int) ≤ 1000000000 → ∃ r, Evt (fun k => slices_IndexFunc_int_int.l0 k (a ++ t) ((a ++ t).length : Int) (a.length : Int)) r ∧ (r ≥ 0 ↔ ¬ right t) := by
  induction t with
  | nil =>
    intro a _
    refine ⟨-1, Evt.succ ?_, by simp [right]⟩
    simp only [slices_IndexFunc_int_int.l0]
    exact Evt.neg (by simp) (Evt.const _)
  | cons c t ih =>
    intro a hl
    have hl' : (((a ++ [c]) ++ t).length : Int) ≤ 1000000000 := by
      simpa using hl
    have hlen : ((a ++ c :: t).length : Int) = (a.length : Int) + 1 + (t.length : Int) := by
      simp only [List.length_append, List.length_cons]
      omega
    obtain ⟨r, h, hr⟩ := ih (a ++ [c]) hl'
    have e1 : (a ++ [c]) ++ t = a ++ c :: t := by simp
    have e2 : ((a ++ [c]).length : Int) = (a.length : Int) + 1 := by simp
    rw [e1, e2] at h
    by_cases hc : 0 ≤ c ∧ c ≤ 65535
    · refine ⟨r, Evt.succ ?_, by rw [right_cons]; constructor; exact fun x y => hr.1 x y.2; exact fun x => hr.2 fun y => x ⟨hc, y⟩⟩
      simp only [slices_IndexFunc_int_int.l0]
      refine Evt.pos (by omega) (Evt.pos (by omega) (Evt.pos (by omega) (Evt.bind (a := false) ?_ (Evt.neg (by simp) ?_))))
      · rw [rd_append, wrong_eq]
        exact Evt.of (by simp [hc])
      · rw [wrap64_in (by omega) (by omega)]
        exact h
    · refine ⟨(a.length : Int), Evt.succ ?_, by rw [right_cons]; constructor; exact fun _ y => hc y.1; exact fun _ => by omega⟩
      simp only [slices_IndexFunc_int_int.l0]
      refine Evt.pos (by omega) (Evt.pos (by omega) (Evt.pos (by omega) (Evt.bind (a := true) ?_ (Evt.pos rfl (Evt.const _)))))
      rw [rd_append, wrong_eq]
      exact Evt.of (by simp only [decide_eq_true hc])
theorem right_ev (l : List Int) (hl : (l.length : Int) ≤ 1000000000) : Evt (fun k => jstring_Right.f k l) (decide (right l)) := by
  obtain ⟨r, h, hr⟩ := index_ev l [] (by simpa using hl)
  simp only [jstring_Right.f, slices_ContainsFunc_int_int.f, slices_IndexFunc_int_int.f]
  refine Evt.bind (Evt.bind h (Evt.const _)) (Evt.of ?_)
  by_cases hx : right l
  · rw [decide_eq_true hx, decide_eq_false (by rw [hr]; exact fun y => y hx)]
    rfl
  · rw [decide_eq_false hx, decide_eq_true (hr.2 hx)]
    rfl

theorem pairs_single {c d : Int} {t : List Int} (h : ¬ ((55296 ≤ c ∧ c < 56320) ∧ (56320 ≤ d ∧ d < 57344))) : pairs (c :: d :: t) = c :: pairs (d :: t) := by
  rw [pairs, if_neg h]
theorem pairs_double {c d : Int} {t : List Int} (h : (55296 ≤ c ∧ c < 56320) ∧ (56320 ≤ d ∧ d < 57344)) : pairs (c :: d :: t) = (65536 + (c - 55296) * 1024 + d - 56320) :: pairs t := by
  rw [pairs, if_pos h]
theorem rd_two0 (a : List Int) (c d : Int) (t : List Int) : rd (a ++ c :: d :: t) (a.length : Int) = c := rd_append a c _
theorem rd_two1 (a : List Int) (c d : Int) (t : List Int) : rd (a ++ c :: d :: t) ((a.length : Int) + 1) = d := by
  have := rd_append (a ++ [c]) d t
  simpa using this
theorem pairs_l0 (n : Nat) : ∀ (t a acc : List Int), t.length ≤ n → right t → ((a ++ t).length : Int) ≤ 1000000000 → acc.length ≤ a.length →
    Evt (fun k => jstring_Pairs.l0 k (a ++ t) acc (a.length : Int)) (acc ++ pairs t) := by
  induction n with
  | zero =>
    intro t a acc ht _ _ _
    obtain rfl : t = [] := List.length_eq_zero_iff.1 (by omega)
    refine Evt.succ ?_
    simp only [jstring_Pairs.l0]
    refine Evt.neg (by simp) (Evt.of ?_)
    simp [pairs]
  | succ n ih =>
    intro t a acc ht hr hl hacc
    match t, ht, hr, hl with
    | [], _, _, _ =>
      refine Evt.succ ?_
      simp only [jstring_Pairs.l0]
      refine Evt.neg (by simp) (Evt.of ?_)
      simp [pairs]
    | [c], _, hr, hl =>
      have hc := (right_cons.1 hr).1
      have hlen : ((a ++ [c]).length : Int) = (a.length : Int) + 1 := by simp
      have key : Evt (fun k => if acc.length < 17592186044416 then jstring_Pairs.l0 k (a ++ [c]) (acc ++ [rd (a ++ [c]) (a.length : Int)]) (wrap64 ((a.length : Int) + 1)) else none) (acc ++ pairs [c]) := by
        refine Evt.pos (by omega) ?_
        have := ih [] (a ++ [c]) (acc ++ [c]) (by simp) right_nil (by simpa using hl) (by simp; omega)
        rw [wrap64_in (by omega) (by omega), rd_append]
        simpa [pairs] using this
      refine Evt.succ ?_
      simp only [jstring_Pairs.l0]
      refine Evt.pos (by omega) (Evt.pos (by omega) ?_)
      by_cases h1 : rd (a ++ [c]) (a.length : Int) ≥ 55296
      · refine Evt.pos h1 ?_
        by_cases h2 : rd (a ++ [c]) (a.length : Int) < 56320
        · refine Evt.pos h2 (Evt.neg ?_ key)
          rw [wrap64_in (by omega) (by omega)]
          omega
        · exact Evt.neg h2 key
      · exact Evt.neg h1 key
    | c :: d :: t, ht, hr, hl =>
      have hc := (right_cons.1 hr).1
      have hd := (right_cons.1 (right_cons.1 hr).2).1
      have hlen : ((a ++ c :: d :: t).length : Int) = (a.length : Int) + 2 + (t.length : Int) := by
        simp only [List.length_append, List.length_cons]
        omega
      have single : ¬ ((55296 ≤ c ∧ c < 56320) ∧ (56320 ≤ d ∧ d < 57344)) → Evt (fun k => if acc.length < 17592186044416 then jstring_Pairs.l0 k (a ++ c :: d :: t) (acc ++ [c]) ((a.length : Int) + 1) else none) (acc ++ pairs (c :: d :: t)) := by
        intro hn
        rw [pairs_single hn]
        refine Evt.pos (by omega) ?_
        have := ih (d :: t) (a ++ [c]) (acc ++ [c]) (by simp only [List.length_cons] at ht ⊢; omega) (right_cons.1 hr).2 (by simpa using hl) (by simp; omega)
        simpa using this
      refine Evt.succ ?_
      simp only [jstring_Pairs.l0, rd_two0 a c d t, show wrap64 ((a.length : Int) + 1) = (a.length : Int) + 1 from wrap64_in (by omega) (by omega), rd_two1 a c d t]
      refine Evt.pos (by omega) (Evt.pos (by omega) ?_)
      by_cases h1 : c ≥ 55296
      · refine Evt.pos h1 ?_
        by_cases h2 : c < 56320
        · refine Evt.pos h2 (Evt.pos (by omega) (Evt.pos (by omega) ?_))
          by_cases h3 : d ≥ 56320
          · refine Evt.pos h3 ?_
            by_cases h4 : d < 57344
            · refine Evt.pos h4 (Evt.pos (by omega) ?_)
              rw [pairs_double ⟨⟨h1, h2⟩, ⟨h3, h4⟩⟩]
              rw [wrap64_in (n := c - 55296) (by omega) (by omega), wrap64_in (n := (c - 55296) * 1024) (by omega) (by omega), wrap64_in (n := 65536 + (c - 55296) * 1024) (by omega) (by omega), wrap64_in (n := 65536 + (c - 55296) * 1024 + d) (by omega) (by omega), wrap64_in (n := 65536 + (c - 55296) * 1024 + d - 56320) (by omega) (by omega), wrap64_in (n := (a.length : Int) + 1 + 1) (by omega) (by omega)]
              have := ih t (a ++ [c, d]) (acc ++ [65536 + (c - 55296) * 1024 + d - 56320]) (by simp only [List.length_cons] at ht; omega) (right_cons.1 (right_cons.1 hr).2).2 (by simpa using hl) (by simp; omega)
              simpa [Int.add_assoc] using this
            · exact Evt.neg h4 (single (by omega))
          · exact Evt.neg h3 (single (by omega))
        · exact Evt.neg h2 (single (by omega))
      · exact Evt.neg h1 (single (by omega))
theorem pairs_ev (l : List Int) (hr : right l) (hl : (l.length : Int) ≤ 1000000000) : Evt (fun k => jstring_Pairs.f k l) (pairs l) := by
  have := pairs_l0 l.length l [] [] (Nat.le_refl _) hr (by simpa using hl) (by simp)
  simpa [jstring_Pairs.f] using this

theorem str_append (a b : List Int) : strOfNums a ++ strOfNums b = strOfNums (a ++ b) := by
  apply ByteArray.ext
  simp [strOfNums]
theorem hex_at {d : Int} (h0 : 0 ≤ d) (h1 : d < 16) : (⟨#[48, 49, 50, 51, 52, 53, 54, 55, 56, 57, 97, 98, 99, 100, 101, 102]⟩ : ByteArray).extract d.toNat (d + 1).toNat = strOfNums [hexd d] := by
  have : d = 0 ∨ d = 1 ∨ d = 2 ∨ d = 3 ∨ d = 4 ∨ d = 5 ∨ d = 6 ∨ d = 7 ∨ d = 8 ∨ d = 9 ∨ d = 10 ∨ d = 11 ∨ d = 12 ∨ d = 13 ∨ d = 14 ∨ d = 15 := by omega
  rcases this with rfl | rfl | rfl | rfl | rfl | rfl | rfl | rfl | rfl | rfl | rfl | rfl | rfl | rfl | rfl | rfl <;> rfl
theorem digits_step {r : Int} {acc : List Int} {i : Int} {R : ByteArray} (h0 : 0 ≤ r) (h1 : r ≤ 65535) (hi0 : 0 ≤ i) (hi : i < 4) (ha : acc.length ≤ 10) (h : Evt (fun k => jstring_digits.l0 k (r / 16) (strOfNums (hexd (r % 16) :: acc)) (i + 1)) R) : Evt (fun k => jstring_digits.l0 k r (strOfNums acc) i) R := by
  have e1 : Int.tmod r 16 = r % 16 := Int.tmod_eq_emod_of_nonneg h0
  have e2 : Int.tdiv r 16 = r / 16 := Int.tdiv_eq_ediv_of_nonneg h0
  have e3 : wrap64 (r % 16 + 1) = r % 16 + 1 := wrap64_in (by omega) (by omega)
  have e4 : wrap64 (r / 16) = r / 16 := wrap64_in (by omega) (by omega)
  have e5 : wrap64 (i + 1) = i + 1 := wrap64_in (by omega) (by omega)
  have p1 : 0 ≤ r % 16 := by clear e1 e2 e3 e4 e5; omega
  have p2 : r % 16 < 16 := by clear e1 e2 e3 e4 e5; omega
  have p3 : r % 16 ≤ r % 16 + 1 := by clear e1 e2 e3 e4 e5; omega
  have p4 : r % 16 + 1 ≤ 16 := by clear e1 e2 e3 e4 e5; omega
  refine Evt.succ ?_
  simp only [jstring_digits.l0, e1, e2, e3, e4, e5, hex_at p1 p2, str_append]
  refine Evt.pos hi (Evt.pos p1 (Evt.pos p3 (Evt.pos p4 (Evt.pos ?_ h))))
  rw [str_size, str_size]
  simp only [List.length_cons, List.length_nil]
  clear e1 e2 e3 e4 e5
  omega
theorem digits_ev {r : Int} (h0 : 0 ≤ r) (h1 : r ≤ 65535) : Evt (fun k => jstring_digits.f k r) (strOfNums (four r)) := by
  have e0 : (⟨#[]⟩ : ByteArray) = strOfNums [] := rfl
  simp only [jstring_digits.f, e0]
  refine digits_step h0 h1 (by omega) (by omega) (by simp) ?_
  refine digits_step (by omega) (by omega) (by omega) (by omega) (by simp) ?_
  refine digits_step (by omega) (by omega) (by omega) (by omega) (by simp) ?_
  refine digits_step (by omega) (by omega) (by omega) (by omega) (by simp) ?_
  refine Evt.succ ?_
  simp only [jstring_digits.l0]
  refine Evt.neg (by omega) (Evt.of ?_)
  have q1 : r / 16 / 16 / 16 % 16 = r / 4096 := by omega
  have q2 : r / 16 / 16 % 16 = r / 256 % 16 := by omega
  rw [q1, q2]
  rfl

def idxOf (n : Nat) : Int := if n = 34 then 0 else if n = 92 then 1 else if n = 8 then 2 else if n = 12 then 3 else if n = 10 then 4 else if n = 13 then 5 else if n = 9 then 6 else -1
theorem idx_eq : ∀ n : Fin 128, Lib.indexByte [34, 92, 8, 12, 10, 13, 9] n.val.toUInt8 = idxOf n.val := by decide +kernel
theorem idx_none {r : Int} (h0 : 0 ≤ r) (h : short r = none) : strings_IndexByte.f (⟨#[34, 92, 8, 12, 10, 13, 9]⟩ : ByteArray) ((mn r 127) % 256) = some (-1) := by
  have hc : 0 ≤ (mn r 127) % 256 ∧ (mn r 127) % 256 < 128 ∧ ((mn r 127) % 256 = r ∨ (mn r 127) % 256 = 127) := by
    unfold mn
    split <;> omega
  generalize (mn r 127) % 256 = c at hc
  have key := idx_eq ⟨c.toNat, by omega⟩
  have e : (⟨#[34, 92, 8, 12, 10, 13, 9]⟩ : ByteArray).data.toList = [34, 92, 8, 12, 10, 13, 9] := rfl
  unfold strings_IndexByte.f
  rw [e]
  refine congrArg some (key.trans ?_)
  unfold short at h
  have hn : ∀ m : Nat, (m = 34 ∨ m = 92 ∨ m = 8 ∨ m = 12 ∨ m = 10 ∨ m = 13 ∨ m = 9) → c.toNat ≠ m := by
    intro m hm e1
    have h34 : r ≠ 34 := by rintro rfl; simp at h
    have h92 : r ≠ 92 := by rintro rfl; simp at h
    have h8 : r ≠ 8 := by rintro rfl; simp at h
    have h12 : r ≠ 12 := by rintro rfl; simp at h
    have h10 : r ≠ 10 := by rintro rfl; simp at h
    have h13 : r ≠ 13 := by rintro rfl; simp at h
    have h9 : r ≠ 9 := by rintro rfl; simp at h
    omega
  unfold idxOf
  rw [if_neg (hn 34 (by simp)), if_neg (hn 92 (by simp)), if_neg (hn 8 (by simp)), if_neg (hn 12 (by simp)), if_neg (hn 10 (by simp)), if_neg (hn 13 (by simp)), if_neg (hn 9 (by simp))]
theorem spell_j0 {r : Int} (h0 : 0 ≤ r) (h1 : r ≤ 1114111) (hs : short r = none) (b : Bool) (hb : b = decide (r < 32 ∨ (55296 ≤ r ∧ r < 57344))) : Evt (fun k => jstring_spell.j0 k r b) (strOfNums (spell r)) := by
  have e : spell r = if r < 32 ∨ (55296 ≤ r ∧ r < 57344) then 92 :: 117 :: four r else put r := by
    unfold spell
    rw [hs]
  rw [e]
  subst hb
  refine Evt.succ ?_
  simp only [jstring_spell.j0]
  by_cases h : r < 32 ∨ (55296 ≤ r ∧ r < 57344)
  · rw [if_pos h]
    refine Evt.pos (decide_eq_true h) (Evt.bind (digits_ev h0 (by omega)) (Evt.pos ?_ (Evt.of ?_)))
    · rw [str_size]
      simp [four]
    · have e2 : (⟨#[92, 117]⟩ : ByteArray) = strOfNums [92, 117] := rfl
      rw [e2, str_append]
      rfl
  · rw [if_neg h]
    refine Evt.neg (by simpa using h) (Evt.bind (text_ev [r] (by simp)) (Evt.of ?_))
    simp [puts]
theorem spell_ev {r : Int} (h0 : 0 ≤ r) (h1 : r ≤ 1114111) : Evt (fun k => jstring_spell.f k r) (strOfNums (spell r)) := by
  by_cases hs : short r = none
  · simp only [jstring_spell.f, idx_none h0 hs]
    refine Evt.bind (Evt.const _) (Evt.neg (by omega) ?_)
    by_cases a1 : r < 32
    · exact Evt.pos a1 (spell_j0 h0 h1 hs true (by rw [decide_eq_true (Or.inl a1)]))
    refine Evt.neg a1 ?_
    by_cases a2 : r ≥ 55296
    · refine Evt.pos a2 (spell_j0 h0 h1 hs _ ?_)
      rw [decide_eq_decide]
      omega
    · exact Evt.neg a2 (spell_j0 h0 h1 hs false (by rw [decide_eq_false (by omega)]))
  · have : r = 34 ∨ r = 92 ∨ r = 8 ∨ r = 12 ∨ r = 10 ∨ r = 13 ∨ r = 9 := by
      unfold short at hs
      by_cases b1 : r = 34
      · exact .inl b1
      by_cases b2 : r = 92
      · exact .inr (.inl b2)
      by_cases b3 : r = 8
      · exact .inr (.inr (.inl b3))
      by_cases b4 : r = 12
      · exact .inr (.inr (.inr (.inl b4)))
      by_cases b5 : r = 10
      · exact .inr (.inr (.inr (.inr (.inl b5))))
      by_cases b6 : r = 13
      · exact .inr (.inr (.inr (.inr (.inr (.inl b6)))))
      by_cases b7 : r = 9
      · exact .inr (.inr (.inr (.inr (.inr (.inr b7)))))
      · simp [b1, b2, b3, b4, b5, b6, b7] at hs
    rcases this with rfl | rfl | rfl | rfl | rfl | rfl | rfl <;> exact ⟨0, fun k _ => by show jstring_spell.f k _ = _; kernel_rfl⟩

def U (xs : List Int) : List UInt8 := xs.map fun n => UInt8.ofNat n.toNat
theorem U_append (a b : List Int) : U (a ++ b) = U a ++ U b := by simp [U]
theorem U_length (a : List Int) : (U a).length = a.length := by simp [U]
theorem str_data (a : List Int) : (strOfNums a).data.toList = U a := by simp [strOfNums, U]
theorem spells_l0 (t : List Int) : ∀ (a acc : List Int), (∀ x ∈ t, 0 ≤ x ∧ x ≤ 1114111) → ((a ++ t).length : Int) ≤ 1000000000 → acc.length ≤ 6 * a.length + 1 →
    Evt (fun k => jstring_Spell.l0 k (a ++ t) (a.length : Int) (U acc)) (strOfNums (acc ++ (t.flatMap spell ++ [34]))) := by
  induction t with
  | nil =>
    intro a acc _ hl hacc
    have hl1 : acc.length + 1 ≤ 140737488355328 := by
      simp only [List.append_nil] at hl
      omega
    refine Evt.succ ?_
    simp only [jstring_Spell.l0]
    refine Evt.neg (by simp) (Evt.pos (by rw [U_length]; exact hl1) (Evt.of ?_))
    simp [strOfNums, U]
  | cons c t ih =>
    intro a acc hr hl hacc
    have hc := hr c (by simp)
    have hlen : ((a ++ c :: t).length : Int) = (a.length : Int) + 1 + (t.length : Int) := by
      simp only [List.length_append, List.length_cons]
      omega
    have hs := spell_len c
    have h := ih (a ++ [c]) (acc ++ spell c) (fun x hx => hr x (by simp [hx])) (by simpa using hl) (by simp only [List.length_append, List.length_cons, List.length_nil]; omega)
    have p1 : (a.length : Int) < ((a ++ c :: t).length : Int) := by omega
    have p2 : (0 : Int) ≤ (a.length : Int) := by omega
    have p3 : acc.length + (spell c).length ≤ 140737488355328 := by omega
    have w1 : wrap64 ((a.length : Int) + 1) = (a.length : Int) + 1 := wrap64_in (by omega) (by omega)
    refine Evt.succ ?_
    simp only [jstring_Spell.l0, rd_append, w1]
    refine Evt.pos p1 (Evt.pos p2 (Evt.bind (spell_ev hc.1 hc.2) (Evt.pos (by rw [U_length, str_size]; exact p3) ?_)))
    rw [str_data, ← U_append]
    simpa using h
theorem Spell_ev (l : List Int) (hl : (l.length : Int) ≤ 100000000) : Evt (fun k => jstring_Spell.f k l) (if right l then strOfNums (spelled l) else ⟨#[]⟩) := by
  simp only [jstring_Spell.f]
  refine Evt.bind (right_ev l (by omega)) ?_
  by_cases hr : right l
  · rw [if_pos hr]
    have hp := pairs_len l
    refine Evt.pos (decide_eq_true hr) (Evt.bind (pairs_ev l hr (by omega)) ?_)
    have := spells_l0 (pairs l) [] [34] (pairs_range hr) (by simp only [List.nil_append]; omega) (by simp)
    simpa [spelled, body, U] using this
  · rw [if_neg hr]
    exact Evt.neg (by simp [hr]) (Evt.const _)
end Go.Proofs.Ytcioifijkonplaa.JstrEq

/- The examples of the law: they hold. -/
namespace Go.Proofs.Ytcioifijkonplaa.JstrEq
open Go.RowKit Go.Proofs.YtcioifijkonplaaW.PrintWords Go.Proofs.Ytcioifijkonplaa.Base Go.Proofs.Ytcioifijkonplaa.Utf Go.Proofs.Ytcioifijkonplaa.UtfEq Go.Proofs.Ytcioifijkonplaa.TextEq Go.Proofs.Ytcioifijkonplaa.Jstr Go.Proofs.Ytcioifijkonplaa.Q

theorem alive_ev : Evt (fun k => abridgerlaw8_alive.f k) true := by
  have h1 := Spell_ev [] (by simp)
  have h2 := Spell_ev [34, 97] (by simp)
  have h3 := right_ev [65535] (by simp)
  have h4 := right_ev [65536] (by simp)
  have e1 : ((if right [] then strOfNums (spelled []) else ⟨#[]⟩) : ByteArray) = ⟨#[34, 34]⟩ := by
    rw [if_pos right_nil]
    rfl
  have e2 : ((if right [34, 97] then strOfNums (spelled [34, 97]) else ⟨#[]⟩) : ByteArray) = ⟨#[34, 92, 34, 97, 34]⟩ := by
    rw [if_pos (by decide)]
    kernel_rfl
  rw [e1] at h1
  rw [e2] at h2
  rw [decide_eq_true (by decide)] at h3
  rw [decide_eq_false (by decide)] at h4
  simp only [abridgerlaw8_alive.f]
  refine Evt.bind h1 (Evt.pos (by decide +kernel) (Evt.bind h2 (Evt.pos (by decide +kernel) (Evt.bind h3 (Evt.pos rfl (Evt.bind h4 (Evt.of rfl)))))))
end Go.Proofs.Ytcioifijkonplaa.JstrEq

/- Which units a text of JSON stands for, in plain Lean: what is written stands for what it was written for, and nothing that stands for it is shorter. No program stands here. -/
namespace Go.Proofs.Ytcioifijkonplaa.Jstr
open Go.RowKit Go.Proofs.YtcioifijkonplaaW.PrintWords Go.Proofs.Ytcioifijkonplaa.Base Go.Proofs.Ytcioifijkonplaa.Utf

/-- What a digit of base 16 is worth; below 0: it is none. -/
def hexv (c : Int) : Int := if 48 ≤ c ∧ c ≤ 57 then c - 48 else if 97 ≤ c ∧ c ≤ 102 then c - 87 else if 65 ≤ c ∧ c ≤ 70 then c - 55 else -1
/-- What may stand behind a backslash, and what it is. -/
def esc (c : Int) : Prop := c = 34 ∨ c = 92 ∨ c = 47 ∨ c = 98 ∨ c = 102 ∨ c = 110 ∨ c = 114 ∨ c = 116
instance (c : Int) : Decidable (esc c) := by unfold esc; infer_instance
def escv (c : Int) : Int := if c = 98 then 8 else if c = 102 then 12 else if c = 110 then 10 else if c = 114 then 13 else if c = 116 then 9 else c
/-- A code point's units. -/
def pr (r : Int) : List Int := if r < 65536 then [r] else [55296 + (r - 65536) / 1024, 56320 + (r - 65536) % 1024]
/-- A text behind its first mark stands for units. -/
inductive Reads : List Int → List Int → Prop
  | done : Reads [34] []
  | cp {r : Int} {t l : List Int} : isCp r → 32 ≤ r → r ≠ 34 → r ≠ 92 → Reads t l → Reads (enc r ++ t) (pr r ++ l)
  | u {a b c d : Int} {t l : List Int} : 0 ≤ hexv a → 0 ≤ hexv b → 0 ≤ hexv c → 0 ≤ hexv d → Reads t l → Reads (92 :: 117 :: a :: b :: c :: d :: t) ((((hexv a * 16 + hexv b) * 16 + hexv c) * 16 + hexv d) :: l)
  | e {c : Int} {t l : List Int} : esc c → Reads t l → Reads (92 :: c :: t) (escv c :: l)
/-- A text behind its first mark is one, but for its code points. -/
inductive Jt : List Int → Prop
  | done : Jt [34]
  | ch {c : Int} {t : List Int} : 32 ≤ c → c ≠ 34 → c ≠ 92 → Jt t → Jt (c :: t)
  | u {a b c d : Int} {t : List Int} : 0 ≤ hexv a → 0 ≤ hexv b → 0 ≤ hexv c → 0 ≤ hexv d → Jt t → Jt (92 :: 117 :: a :: b :: c :: d :: t)
  | e {c : Int} {t : List Int} : esc c → Jt t → Jt (92 :: c :: t)

theorem hexv_lt (c : Int) : hexv c < 16 := by
  unfold hexv
  repeat' split
  all_goals omega
theorem hexv_range {c : Int} (h : 0 ≤ hexv c) : 48 ≤ c ∧ c ≤ 102 := by
  unfold hexv at h
  repeat' split at h
  all_goals omega
theorem hexv_hexd {n : Int} (h0 : 0 ≤ n) (h1 : n < 16) : hexv (hexd n) = n := by
  unfold hexd hexv
  split
  · rw [if_pos (by omega)]; omega
  · rw [if_neg (by omega), if_pos (by omega)]; omega
theorem esc_range {c : Int} (h : esc c) : 34 ≤ c ∧ c ≤ 116 ∧ c ≠ 117 := by
  unfold esc at h
  omega
theorem escv_range {c : Int} (h : esc c) : 0 ≤ escv c ∧ escv c ≤ 92 := by
  unfold esc at h
  rcases h with rfl | rfl | rfl | rfl | rfl | rfl | rfl | rfl <;> decide
theorem short_esc {n c : Int} (h : short n = some c) : esc c ∧ escv c = n := by
  have key : ∀ a b : Int, some a = some b → esc a → escv a = n → esc b ∧ escv b = n := by
    intro a b e h1 h2
    obtain rfl := Option.some.inj e
    exact ⟨h1, h2⟩
  unfold short at h
  split at h
  · subst_vars; exact key _ _ h (by decide) (by decide)
  split at h
  · subst_vars; exact key _ _ h (by decide) (by decide)
  split at h
  · subst_vars; exact key _ _ h (by decide) (by decide)
  split at h
  · subst_vars; exact key _ _ h (by decide) (by decide)
  split at h
  · subst_vars; exact key _ _ h (by decide) (by decide)
  split at h
  · subst_vars; exact key _ _ h (by decide) (by decide)
  split at h
  · subst_vars; exact key _ _ h (by decide) (by decide)
  · exact absurd h (by simp)
theorem short_not {n : Int} (h : short n = none) : n ≠ 34 ∧ n ≠ 92 := by
  constructor
  · rintro rfl; exact absurd h (by decide)
  · rintro rfl; exact absurd h (by decide)
theorem short_none {n : Int} (h : 92 < n) : short n = none := by
  unfold short
  rw [if_neg (by omega), if_neg (by omega), if_neg (by omega), if_neg (by omega), if_neg (by omega), if_neg (by omega), if_neg (by omega)]
/-- A unit, as it is written, stands for itself. -/
theorem reads_spell {n : Int} {t l : List Int} (h0 : 0 ≤ n) (h1 : n ≤ 65535) (h : Reads t l) : Reads (spell n ++ t) (n :: l) := by
  unfold spell
  rcases hs : short n with _ | c
  · simp only
    split
    · rename_i hr
      have := @Reads.u (hexd (n / 4096)) (hexd (n / 256 % 16)) (hexd (n / 16 % 16)) (hexd (n % 16)) t l
      rw [hexv_hexd (by omega) (by omega), hexv_hexd (by omega) (by omega), hexv_hexd (by omega) (by omega), hexv_hexd (by omega) (by omega)] at this
      have h2 := this (by omega) (by omega) (by omega) (by omega) h
      rw [show ((n / 4096 * 16 + n / 256 % 16) * 16 + n / 16 % 16) * 16 + n % 16 = n by omega] at h2
      exact h2
    · rename_i hr
      have hcp : isCp n := ⟨h0, by omega, by omega⟩
      have h2 := Reads.cp hcp (by omega) (short_not hs).1 (short_not hs).2 h
      unfold put
      rw [fix_of hcp]
      unfold pr at h2
      rw [if_pos (by omega)] at h2
      exact h2
  · obtain ⟨h2, h3⟩ := short_esc hs
    have := Reads.e h2 h
    rw [h3] at this
    exact this
theorem body_single {c d : Int} {t : List Int} (h : ¬ ((55296 ≤ c ∧ c < 56320) ∧ (56320 ≤ d ∧ d < 57344))) : body (c :: d :: t) = spell c ++ body (d :: t) := by
  unfold body
  rw [pairs, if_neg h]
  rfl
theorem body_double {c d : Int} {t : List Int} (h : (55296 ≤ c ∧ c < 56320) ∧ (56320 ≤ d ∧ d < 57344)) : body (c :: d :: t) = enc (65536 + (c - 55296) * 1024 + d - 56320) ++ body t := by
  unfold body
  rw [pairs, if_pos h]
  have hcp : isCp (65536 + (c - 55296) * 1024 + d - 56320) := ⟨by omega, by omega, by omega⟩
  rw [List.flatMap_cons]
  congr 1
  unfold spell
  rw [short_none (by omega)]
  simp only
  rw [if_neg (by omega)]
  unfold put
  rw [fix_of hcp]
theorem body_one (n : Int) : body [n] = spell n ++ body [] := by
  simp [body, pairs]
/-- What is written stands for what it was written for. -/
theorem reads_body : ∀ (l : List Int), right l → Reads (body l ++ [34]) l
  | [], _ => by
    simp only [body, pairs, List.flatMap_nil, List.nil_append]
    exact Reads.done
  | [n], h => by
    have h1 := (right_cons.1 h).1
    rw [body_one]
    simp only [body, pairs, List.flatMap_nil, List.append_nil]
    exact reads_spell h1.1 h1.2 Reads.done
  | n :: m :: t, h => by
    have h1 := (right_cons.1 h).1
    have h2 := right_cons.1 (right_cons.1 h).2
    by_cases hp : (55296 ≤ n ∧ n < 56320) ∧ (56320 ≤ m ∧ m < 57344)
    · rw [body_double hp, List.append_assoc]
      have hcp : isCp (65536 + (n - 55296) * 1024 + m - 56320) := ⟨by omega, by omega, by omega⟩
      have h3 := Reads.cp hcp (by omega) (by omega) (by omega) (reads_body t h2.2)
      unfold pr at h3
      rw [if_neg (by omega), show 55296 + (65536 + (n - 55296) * 1024 + m - 56320 - 65536) / 1024 = n by omega, show 56320 + (65536 + (n - 55296) * 1024 + m - 56320 - 65536) % 1024 = m by omega] at h3
      exact h3
    · rw [body_single hp, List.append_assoc]
      exact reads_spell h1.1 h1.2 (reads_body (m :: t) (right_cons.1 h).2)
/-- One unit more makes no more than what it is written as alone. -/
theorem body_cons_le (x : Int) (l : List Int) : (body (x :: l)).length ≤ (spell x).length + (body l).length := by
  rcases l with _ | ⟨m, t⟩
  · rw [body_one]
    simp
  · by_cases hp : (55296 ≤ x ∧ x < 56320) ∧ (56320 ≤ m ∧ m < 57344)
    · rw [body_double hp]
      have h1 : (spell x).length = 6 := by
        unfold spell
        rw [short_none (by omega)]
        simp only
        rw [if_pos (by omega)]
        simp [four]
      have h2 : (body t).length ≤ (body (m :: t)).length := by
        rcases t with _ | ⟨y, t⟩
        · rw [body_one]; simp
        · rw [body_single (by omega)]; simp
      have h3 : ((enc (65536 + (x - 55296) * 1024 + m - 56320)).length : Int) ≤ 4 := by
        rw [enc_size]
        exact (size_range _).2
      simp only [List.length_append]
      omega
    · rw [body_single hp]
      simp
theorem spell_esc {c : Int} (h : esc c) : (spell (escv c)).length ≤ 2 := by
  unfold esc at h
  rcases h with rfl | rfl | rfl | rfl | rfl | rfl | rfl | rfl <;> decide +kernel
theorem body_pr {r : Int} (h : isCp r) (h32 : 32 ≤ r) (h34 : r ≠ 34) (h92 : r ≠ 92) (l : List Int) : (body (pr r ++ l)).length ≤ (enc r).length + (body l).length := by
  have h' := h
  unfold isCp at h'
  unfold pr
  split
  · refine Nat.le_trans (body_cons_le r l) ?_
    have : spell r = enc r := by
      have hs : short r = none := by
        unfold short
        rw [if_neg (by omega), if_neg (by omega), if_neg (by omega), if_neg (by omega), if_neg (by omega), if_neg (by omega), if_neg (by omega)]
      unfold spell
      rw [hs]
      simp only
      rw [if_neg (by omega)]
      unfold put
      rw [fix_of h]
    rw [this]
    exact Nat.le_refl _
  · show (body ((55296 + (r - 65536) / 1024) :: (56320 + (r - 65536) % 1024) :: l)).length ≤ _
    rw [body_double (by omega), show 65536 + (55296 + (r - 65536) / 1024 - 55296) * 1024 + (56320 + (r - 65536) % 1024) - 56320 = r by omega, List.length_append]
    exact Nat.le_refl _
/-- No text that stands for the same units is shorter. -/
theorem reads_least {t l : List Int} (h : Reads t l) : (body l).length + 1 ≤ t.length := by
  induction h with
  | done => simp [body, pairs]
  | @cp r t l h1 h2 h3 h4 _ ih =>
    have := body_pr h1 h2 h3 h4 l
    simp only [List.length_append]
    omega
  | @u a b c d t l h1 h2 h3 h4 _ ih =>
    have h5 := body_cons_le (((hexv a * 16 + hexv b) * 16 + hexv c) * 16 + hexv d) l
    have h6 := (spell_len (((hexv a * 16 + hexv b) * 16 + hexv c) * 16 + hexv d)).2
    simp only [List.length_cons]
    omega
  | @e c t l h1 _ ih =>
    have h5 := body_cons_le (escv c) l
    have h6 := spell_esc h1
    simp only [List.length_cons]
    omega
theorem reads_right {t l : List Int} (h : Reads t l) : right l := by
  induction h with
  | done => exact right_nil
  | @cp r t l h1 h2 h3 h4 _ ih =>
    unfold isCp at h1
    unfold pr
    split
    · exact right_cons.2 ⟨by omega, ih⟩
    · exact right_cons.2 ⟨by omega, right_cons.2 ⟨by omega, ih⟩⟩
  | @u a b c d t l h1 h2 h3 h4 _ ih =>
    have := hexv_lt a
    have := hexv_lt b
    have := hexv_lt c
    have := hexv_lt d
    exact right_cons.2 ⟨by omega, ih⟩
  | @e c t l h1 _ ih =>
    have := escv_range h1
    exact right_cons.2 ⟨by omega, ih⟩
theorem pr_len (r : Int) : ((pr r).length : Int) ≤ size r := by
  unfold pr size
  repeat' split
  all_goals first | (simp; done) | (exfalso; omega) | (simp only [List.length_cons, List.length_nil]; omega)
theorem reads_units {t l : List Int} (h : Reads t l) : l.length ≤ t.length := by
  induction h with
  | done => simp
  | @cp r t l h1 h2 h3 h4 _ ih =>
    have h5 := pr_len r
    have h6 := @enc_size r
    simp only [List.length_append]
    omega
  | @u a b c d t l h1 h2 h3 h4 _ ih =>
    simp only [List.length_cons]
    omega
  | @e c t l h1 _ ih =>
    simp only [List.length_cons]
    omega
theorem enc_low {c : Int} (h : c < 128) : enc c = [c] := by
  unfold enc
  rw [if_pos h]
/-- A text that stands for units is UTF-8. -/
theorem reads_cps {t l : List Int} (h : Reads t l) : ∃ rs, (∀ r ∈ rs, isCp r) ∧ encAll rs = t := by
  have low : ∀ {c : Int} {rs : List Int}, 0 ≤ c → c < 128 → (∀ r ∈ rs, isCp r) → (∀ r ∈ c :: rs, isCp r) ∧ encAll (c :: rs) = c :: encAll rs := by
    intro c rs h0 h1 h2
    refine ⟨?_, by rw [encAll_cons, enc_low h1]; rfl⟩
    intro r hr
    rcases List.mem_cons.1 hr with rfl | hr
    · exact ⟨h0, by omega, by omega⟩
    · exact h2 r hr
  induction h with
  | done => exact ⟨[34], by simp [isCp], rfl⟩
  | @cp r t l h1 h2 h3 h4 _ ih =>
    obtain ⟨rs, h5, rfl⟩ := ih
    refine ⟨r :: rs, ?_, encAll_cons _ _⟩
    intro x hx
    rcases List.mem_cons.1 hx with rfl | hx
    · exact h1
    · exact h5 x hx
  | @u a b c d t l h1 h2 h3 h4 _ ih =>
    obtain ⟨rs, h5, rfl⟩ := ih
    have r1 := hexv_range h1
    have r2 := hexv_range h2
    have r3 := hexv_range h3
    have r4 := hexv_range h4
    obtain ⟨p4, q4⟩ := low (c := d) (by omega) (by omega) h5
    obtain ⟨p3, q3⟩ := low (c := c) (by omega) (by omega) p4
    obtain ⟨p2, q2⟩ := low (c := b) (by omega) (by omega) p3
    obtain ⟨p1, q1⟩ := low (c := a) (by omega) (by omega) p2
    obtain ⟨p0, q0⟩ := low (c := 117) (by omega) (by omega) p1
    obtain ⟨p, q⟩ := low (c := 92) (by omega) (by omega) p0
    exact ⟨_, p, by rw [q, q0, q1, q2, q3, q4]⟩
  | @e c t l h1 _ ih =>
    obtain ⟨rs, h5, rfl⟩ := ih
    have r1 := esc_range h1
    obtain ⟨p0, q0⟩ := low (c := c) (by omega) (by omega) h5
    obtain ⟨p, q⟩ := low (c := 92) (by omega) (by omega) p0
    exact ⟨_, p, by rw [q, q0]⟩
theorem enc_high {r : Int} (h : isCp r) (h1 : 128 ≤ r) : ∀ x ∈ enc r, 128 ≤ x := by
  unfold isCp at h
  intro x hx
  unfold enc at hx
  repeat' split at hx
  all_goals simp only [List.mem_cons, List.not_mem_nil, or_false] at hx
  all_goals omega
theorem jt_enc {r : Int} {t : List Int} (h : isCp r) (h32 : 32 ≤ r) (h34 : r ≠ 34) (h92 : r ≠ 92) (ht : Jt t) : Jt (enc r ++ t) := by
  by_cases h1 : r < 128
  · rw [enc_low h1]
    exact Jt.ch h32 h34 h92 ht
  · have key : ∀ p : List Int, (∀ x ∈ p, 128 ≤ x) → Jt (p ++ t) := by
      intro p
      induction p with
      | nil => intro _; exact ht
      | cons a p ih =>
        intro hp
        have := hp a (by simp)
        exact Jt.ch (by omega) (by omega) (by omega) (ih fun x hx => hp x (by simp [hx]))
    exact key _ (enc_high h (by omega))
theorem reads_jt {t l : List Int} (h : Reads t l) : Jt t := by
  induction h with
  | done => exact Jt.done
  | cp h1 h2 h3 h4 _ ih => exact jt_enc h1 h2 h3 h4 ih
  | u h1 h2 h3 h4 _ ih => exact Jt.u h1 h2 h3 h4 ih
  | e h1 _ ih => exact Jt.e h1 ih
theorem jt_strip {p t : List Int} (hp : ∀ x ∈ p, 128 ≤ x) (h : Jt (p ++ t)) : Jt t := by
  induction p with
  | nil => exact h
  | cons a p ih =>
    have ha := hp a (by simp)
    refine ih (fun x hx => hp x (by simp [hx])) ?_
    generalize hq : a :: p ++ t = q at h
    cases h with
    | done => simp at hq; omega
    | ch _ _ _ h2 =>
      simp only [List.cons_append, List.cons.injEq] at hq
      rw [hq.2]
      exact h2
    | u => simp at hq; omega
    | e => simp at hq; omega
theorem cps_low {rs : List Int} {c : Int} {t : List Int} (hrs : ∀ r ∈ rs, isCp r) (h : encAll rs = c :: t) (hc : c < 128) : ∃ rs', rs = c :: rs' ∧ (∀ r ∈ rs', isCp r) ∧ encAll rs' = t := by
  rcases rs with _ | ⟨r, rs⟩
  · simp [encAll] at h
  · have hr := hrs r (by simp)
    by_cases h1 : r < 128
    · rw [encAll_cons, enc_low h1] at h
      simp only [List.cons_append, List.nil_append, List.cons.injEq] at h
      obtain ⟨rfl, rfl⟩ := h
      exact ⟨rs, rfl, fun x hx => hrs x (by simp [hx]), rfl⟩
    · have h2 := enc_high hr (by omega)
      rcases he : enc r with _ | ⟨x, y⟩
      · have e1 := @enc_size r
        have e2 := size_range r
        rw [he] at e1
        simp at e1
        omega
      · rw [encAll_cons, he] at h
        simp only [List.cons_append, List.cons.injEq] at h
        have := h2 x (by rw [he]; simp)
        omega
/-- A text of code points that is one of JSON stands for units. -/
theorem jt_reads : ∀ (n : Nat) (rs : List Int), (encAll rs).length ≤ n → (∀ r ∈ rs, isCp r) → Jt (encAll rs) → ∃ l, Reads (encAll rs) l := by
  intro n
  induction n with
  | zero =>
    intro rs hn hrs h
    have : encAll rs = [] := List.length_eq_zero_iff.1 (by omega)
    rw [this] at h
    cases h
  | succ n ih =>
    intro rs hn hrs h
    generalize hq : encAll rs = q at h
    cases h with
    | done => exact ⟨[], Reads.done⟩
    | @ch c t h1 h2 h3 h4 =>
      rcases rs with _ | ⟨r, rs⟩
      · simp [encAll] at hq
      · have hr := hrs r (by simp)
        have hrs' : ∀ x ∈ rs, isCp x := fun x hx => hrs x (by simp [hx])
        have hs := @enc_size r
        have hs2 := size_range r
        rw [encAll_cons] at hq hn
        simp only [List.length_append] at hn
        have hj : Jt (encAll rs) ∧ 32 ≤ r ∧ r ≠ 34 ∧ r ≠ 92 := by
          by_cases hlow : r < 128
          · rw [enc_low hlow] at hq
            simp only [List.cons_append, List.nil_append, List.cons.injEq] at hq
            obtain ⟨rfl, rfl⟩ := hq
            exact ⟨h4, h1, h2, h3⟩
          · refine ⟨jt_strip (enc_high hr (by omega)) (t := encAll rs) ?_, by omega, by omega, by omega⟩
            rw [hq]
            exact Jt.ch h1 h2 h3 h4
        obtain ⟨l, hl⟩ := ih rs (by omega) hrs' hj.1
        rw [← hq]
        exact ⟨_, Reads.cp hr hj.2.1 hj.2.2.1 hj.2.2.2 hl⟩
    | @u a b c d t h1 h2 h3 h4 h5 =>
      have r1 := hexv_range h1
      have r2 := hexv_range h2
      have r3 := hexv_range h3
      have r4 := hexv_range h4
      obtain ⟨rs1, _, g1, q1⟩ := cps_low hrs hq (by omega)
      obtain ⟨rs2, _, g2, q2⟩ := cps_low g1 q1 (by omega)
      obtain ⟨rs3, _, g3, q3⟩ := cps_low g2 q2 (by omega)
      obtain ⟨rs4, _, g4, q4⟩ := cps_low g3 q3 (by omega)
      obtain ⟨rs5, _, g5, q5⟩ := cps_low g4 q4 (by omega)
      obtain ⟨rs6, _, g6, q6⟩ := cps_low g5 q5 (by omega)
      rw [hq] at hn
      simp only [List.length_cons] at hn
      obtain ⟨l, hl⟩ := ih rs6 (by rw [q6]; omega) g6 (by rw [q6]; exact h5)
      rw [q6] at hl
      exact ⟨_, Reads.u h1 h2 h3 h4 hl⟩
    | @e c t h1 h2 =>
      have r1 := esc_range h1
      obtain ⟨rs1, _, g1, q1⟩ := cps_low hrs hq (by omega)
      obtain ⟨rs2, _, g2, q2⟩ := cps_low g1 q1 (by omega)
      rw [hq] at hn
      simp only [List.length_cons] at hn
      obtain ⟨l, hl⟩ := ih rs2 (by rw [q2]; omega) g2 (by rw [q2]; exact h2)
      rw [q2] at hl
      exact ⟨_, Reads.e h1 hl⟩
end Go.Proofs.Ytcioifijkonplaa.Jstr

/- The reference's functions for UTF-8, as they are printed in plain Lean, answer as the model Utf says. -/
namespace Go.Proofs.Ytcioifijkonplaa.RefEq
open Go.RowKit Go.Proofs.YtcioifijkonplaaW.PrintWords Go.Proofs.Ytcioifijkonplaa.Base Go.Proofs.Ytcioifijkonplaa.Utf Go.Proofs.Ytcioifijkonplaa.UtfEq Go.Proofs.Ytcioifijkonplaa.Q

theorem ref_put_j1 {l : List Int} {r : Int} (h : isCp r) (hl : l.length < 140737488355000) : Evt (fun k => abridgerref1_Put.j1 k l r) (l ++ enc r) := by
  apply Evt.succ
  have h' := h
  unfold isCp at h'
  simp only [abridgerref1_Put.j1, Option.bind_some]
  by_cases c1 : r < 128
  · rw [if_pos c1, if_pos (by omega), bytes1 h c1]; exact Evt.const _
  rw [if_neg c1]
  by_cases c2 : r < 2048
  · rw [if_pos c2, if_pos (by simp only [List.length_cons, List.length_nil]; omega), bytes2 h (by omega) (by omega)]; exact Evt.const _
  rw [if_neg c2]
  by_cases c3 : r < 65536
  · rw [if_pos c3, if_pos (by simp only [List.length_cons, List.length_nil]; omega), bytes3 h (by omega) (by omega)]; exact Evt.const _
  rw [if_neg c3, if_pos (by simp only [List.length_cons, List.length_nil]; omega), bytes4 h (by omega)]; exact Evt.const _
theorem ref_put_ev (l : List Int) (r : Int) (hl : l.length < 140737488355000) : Evt (fun k => abridgerref1_Put.f k l r) (l ++ put r) := by
  have hbad : ¬ isCp r → Evt (fun k => abridgerref1_Put.j0 k l r true) (l ++ put r) := by
    intro h
    refine Evt.succ ?_
    simp only [abridgerref1_Put.j0, if_true]
    unfold put fix
    rw [if_neg h]
    exact ref_put_j1 (by decide) hl
  have hgood : isCp r → Evt (fun k => abridgerref1_Put.j0 k l r false) (l ++ put r) := by
    intro h
    refine Evt.succ ?_
    simp only [abridgerref1_Put.j0, Bool.false_eq_true, if_false]
    unfold put fix
    rw [if_pos h]
    exact ref_put_j1 h hl
  simp only [abridgerref1_Put.f]
  by_cases h1 : r < 0
  · exact Evt.pos h1 (hbad (by unfold isCp; omega))
  refine Evt.neg h1 ?_
  by_cases h2 : r > 1114111
  · exact Evt.pos h2 (hbad (by unfold isCp; omega))
  refine Evt.neg h2 ?_
  by_cases h3 : r ≥ 55296
  · refine Evt.pos h3 ?_
    by_cases h4 : r < 57344
    · rw [decide_eq_true h4]
      exact hbad (by unfold isCp; omega)
    · rw [decide_eq_false h4]
      exact hgood (by unfold isCp; omega)
  · exact Evt.neg h3 (hgood (by unfold isCp; omega))
theorem rmask (c : Int) (h0 : 0 ≤ c) (h1 : c < 256) : bits .and .i64 c 31 = c % 32 ∧ bits .and .i64 c 15 = c % 16 ∧ bits .and .i64 c 7 = c % 8 :=
  ⟨bits_mask .i64 31 (by decide) wraps_i64 5 (by decide) c h0 (by omega), bits_mask .i64 31 (by decide) wraps_i64 4 (by decide) c h0 (by omega), bits_mask .i64 31 (by decide) wraps_i64 3 (by decide) c h0 (by omega)⟩
theorem tail_in (l : List Int) (j : Nat) (hj : j < l.length) (h0 : 0 ≤ l[j]) (h1 : l[j] < 256) : abridgerref1_tail.f l (j : Int) = some (if cont l[j] then (l[j] - 128, true) else (0, false)) := by
  have hr : rd l (j : Int) = l[j] := by simp [rd, List.getD_eq_getElem?_getD, hj]
  unfold abridgerref1_tail.f
  rw [if_neg (by omega), if_pos (by omega), if_pos (by omega), hr]
  by_cases hk : cont l[j]
  · rw [if_pos ((and_cont h0 h1).2 hk), if_pos hk, u8_and63 l[j] h0 h1]
    unfold cont at hk
    rw [wrap64_in (by omega) (by omega), show l[j] % 64 = l[j] - 128 by omega]
  · rw [if_neg (fun h => hk ((and_cont h0 h1).1 h)), if_neg hk]
theorem tail_out (l : List Int) (j : Int) (hj : (l.length : Int) ≤ j) : abridgerref1_tail.f l j = some (0, false) := by
  unfold abridgerref1_tail.f
  rw [if_pos hj]
/-- One more byte. -/
theorem rl0_in {a t : List Int} {c d : Int} {n x low : Int} {i : Nat} {R : Int × Int × Bool} (hc : t[i]? = some d) (hd : 0 ≤ d ∧ d < 256) (hn : ((i : Int) + 1) < n) (hn4 : n ≤ 4) (hx : 0 ≤ x) (hx1 : x < 33554432) (hl : ((a ++ c :: t).length : Int) ≤ 140737488355328)
    (h : cont d → Evt (fun k => abridgerref1_Next.l0 k (a ++ c :: t) (a.length : Int) n (x * 64 + (d - 128)) low ((i : Int) + 2)) R) (hb : ¬ cont d → R = bad) : Evt (fun k => abridgerref1_Next.l0 k (a ++ c :: t) (a.length : Int) n x low ((i : Int) + 1)) R := by
  obtain ⟨hi, hie⟩ := List.getElem?_eq_some_iff.1 hc
  simp only [List.length_append, List.length_cons] at hl
  have hj : a.length + (i + 1) < (a ++ c :: t).length := by simp only [List.length_append, List.length_cons]; omega
  have hg : (a ++ c :: t)[a.length + (i + 1)] = d := by
    rw [List.getElem_append_right (by omega)]
    simp [hie]
  have ht := tail_in (a ++ c :: t) (a.length + (i + 1)) hj (by rw [hg]; exact hd.1) (by rw [hg]; exact hd.2)
  rw [hg] at ht
  refine Evt.succ ?_
  simp only [abridgerref1_Next.l0]
  rw [wrap64_in (n := (a.length : Int) + ((i : Int) + 1)) (by omega) (by omega), show (a.length : Int) + ((i : Int) + 1) = ((a.length + (i + 1) : Nat) : Int) by omega, ht]
  refine Evt.pos hn ?_
  by_cases hk : cont d
  · have hk' := hk
    unfold cont at hk'
    simp only [if_pos hk, Option.bind_some, if_true]
    rw [wrap64_in (n := x * 64) (by omega) (by omega), wrap64_in (n := (i : Int) + 1 + 1) (by omega) (by omega), i64_or6 hx hx1 (by omega) (by omega), show (i : Int) + 1 + 1 = (i : Int) + 2 by omega]
    exact h hk
  · simp only [if_neg hk, Option.bind_some, Bool.false_eq_true, if_false]
    rw [hb hk]
    exact Evt.const _
/-- No more bytes. -/
theorem rl0_out {a t : List Int} {c : Int} {n x low : Int} {i : Nat} (hi : t.length ≤ i) (hi4 : i ≤ 4) (hn : ((i : Int) + 1) < n) (hl : ((a ++ c :: t).length : Int) ≤ 140737488355328) : Evt (fun k => abridgerref1_Next.l0 k (a ++ c :: t) (a.length : Int) n x low ((i : Int) + 1)) bad := by
  simp only [List.length_append, List.length_cons] at hl
  refine Evt.succ ?_
  simp only [abridgerref1_Next.l0]
  rw [wrap64_in (n := (a.length : Int) + ((i : Int) + 1)) (by omega) (by omega), tail_out _ _ (by simp only [List.length_append, List.length_cons]; omega)]
  refine Evt.pos hn ?_
  simp only [Option.bind_some, Bool.false_eq_true, if_false]
  exact Evt.const _
/-- All bytes are there. -/
theorem rl0_end {l : List Int} {i n x low : Int} (hx : 0 ≤ x) : Evt (fun k => abridgerref1_Next.l0 k l i n x low n) (if low ≤ x ∧ isCp x then (x, n, true) else bad) := by
  refine Evt.succ ?_
  simp only [abridgerref1_Next.l0]
  refine Evt.neg (by omega) ?_
  refine Evt.of ?_
  unfold bad
  by_cases c1 : x < low
  · rw [if_pos c1, if_neg (by omega)]
  rw [if_neg c1]
  by_cases c2 : x > 1114111
  · rw [if_pos c2, if_neg (by unfold isCp; omega)]
  rw [if_neg c2]
  by_cases c3 : x ≥ 55296
  · rw [if_pos c3]
    by_cases c4 : x < 57344
    · rw [if_pos c4, if_neg (by unfold isCp; omega)]
    · rw [if_neg c4, if_pos (by unfold isCp; omega)]
  · rw [if_neg c3, if_pos (by unfold isCp; omega)]
theorem fin_low {n x low : Int} (hx : 0 ≤ x) (hlow : (n = 1 ∧ low = 0 ∧ x < 128) ∨ (n = 2 ∧ low = 128 ∧ x < 2048) ∨ (n = 3 ∧ low = 2048 ∧ x < 65536) ∨ (n = 4 ∧ low = 65536)) : (if low ≤ x ∧ isCp x then (x, n, true) else bad) = fin x n := by
  unfold fin
  by_cases h : isCp x
  · by_cases h2 : low ≤ x
    · rw [if_pos ⟨h2, h⟩, if_pos ⟨h, by unfold size; (repeat' split) <;> omega⟩]
    · rw [if_neg (fun h3 => h2 h3.1), if_neg (fun h3 => h2 (by have := h3.2; unfold size at this; (repeat' split at this) <;> omega))]
  · rw [if_neg (fun h3 => h h3.2), if_neg (fun h3 => h h3.1)]
theorem ref_next_at (a : List Int) (c : Int) (t : List Int) (hb : Bytes (c :: t)) (hl : ((a ++ c :: t).length : Int) ≤ 140737488355328) : Evt (fun k => abridgerref1_Next.f k (a ++ c :: t) (a.length : Int)) (dec (c :: t)) := by
  have hc := hb.head
  have ht := hb.tail
  have hl' := hl
  simp only [List.length_append, List.length_cons] at hl'
  obtain ⟨k31, k15, k7⟩ := rmask c hc.1 hc.2
  simp only [abridgerref1_Next.f]
  refine Evt.neg (by omega) ?_
  rw [decide_eq_false (by simp only [List.length_append, List.length_cons]; omega)]
  refine Evt.succ ?_
  simp only [abridgerref1_Next.j0, rd_append]
  refine Evt.neg (by decide) (Evt.pos (by omega) (Evt.pos (by simp only [List.length_append, List.length_cons]; omega) ?_))
  rw [wrap64_in (n := c) (by omega) (by omega)]
  have j3 : ∀ n x low : Int, ∀ R, Evt (fun k => abridgerref1_Next.l0 k (a ++ c :: t) (a.length : Int) n x low 1) R → Evt (fun k => abridgerref1_Next.j3 k (a ++ c :: t) (a.length : Int) n x low) R := by
    intro n x low R h
    refine Evt.succ ?_
    simp only [abridgerref1_Next.j3]
    exact h
  simp only [dec]
  by_cases c1 : c < 128
  · rw [if_pos c1]
    refine Evt.pos c1 (j3 _ _ _ _ ?_)
    have := @rl0_end (a ++ c :: t) (a.length : Int) 1 c 0 hc.1
    rw [fin_low hc.1 (Or.inl ⟨rfl, rfl, c1⟩), fin, if_pos ⟨by unfold isCp; omega, by unfold size; rw [if_pos c1]⟩] at this
    exact this
  rw [if_neg c1]
  refine Evt.neg c1 ?_
  have byte : ∀ d, d ∈ t → 0 ≤ d ∧ d < 256 := fun d hd => ht d hd
  by_cases c2 : c ≥ 192 ∧ c < 224
  · refine Evt.pos (by omega) ?_
    rw [decide_eq_true (by omega)]
    refine Evt.succ ?_
    simp only [abridgerref1_Next.j1, if_true, k31]
    rw [show c % 32 = c - 192 by omega]
    refine j3 _ _ _ _ ?_
    rcases t with _ | ⟨d, t⟩
    · have h1 := @rl0_out a [] c 2 (c - 192) 128 0 (by simp) (by omega) (by omega) hl
      have : (if 194 ≤ c ∧ c < 224 then bad else if 224 ≤ c ∧ c < 240 then bad else if 240 ≤ c ∧ c < 245 then bad else bad) = bad := by (repeat' split) <;> rfl
      rw [this]
      exact h1
    · have hd := byte d (by simp)
      by_cases c3 : 194 ≤ c
      · simp only [if_pos (show 194 ≤ c ∧ c < 224 by omega)]
        refine @rl0_in a (d :: t) c d 2 (c - 192) 128 0 _ rfl hd (by omega) (by omega) (by omega) (by omega) hl (fun hk => ?_) (fun hk => if_neg hk)
        unfold cont at hk
        have := @rl0_end (a ++ c :: d :: t) (a.length : Int) 2 ((c - 192) * 64 + (d - 128)) 128 (by omega)
        rw [fin_low (by omega) (Or.inr (Or.inl ⟨rfl, rfl, by omega⟩))] at this
        rw [if_pos (show cont d by unfold cont; omega)]
        exact this
      · rw [if_neg (show ¬ (194 ≤ c ∧ c < 224) by omega), if_neg (show ¬ (224 ≤ c ∧ c < 240) by omega), if_neg (show ¬ (240 ≤ c ∧ c < 245) by omega)]
        refine @rl0_in a (d :: t) c d 2 (c - 192) 128 0 _ rfl hd (by omega) (by omega) (by omega) (by omega) hl (fun hk => ?_) (fun hk => rfl)
        unfold cont at hk
        have := @rl0_end (a ++ c :: d :: t) (a.length : Int) 2 ((c - 192) * 64 + (d - 128)) 128 (by omega)
        rw [if_neg (by omega)] at this
        exact this
  rw [if_neg (show ¬ (194 ≤ c ∧ c < 224) by omega)]
  have j2 : ∀ R, Evt (fun k => abridgerref1_Next.j1 k (a ++ c :: t) (a.length : Int) c false) R → Evt (fun k => if c ≥ 192 then abridgerref1_Next.j1 k (a ++ c :: t) (a.length : Int) c (decide (c < 224)) else abridgerref1_Next.j1 k (a ++ c :: t) (a.length : Int) c false) R := by
    intro R h
    by_cases h1 : c ≥ 192
    · refine Evt.pos h1 ?_
      rw [decide_eq_false (by omega)]
      exact h
    · exact Evt.neg h1 h
  refine j2 _ (Evt.succ ?_)
  simp only [abridgerref1_Next.j1, Bool.false_eq_true, if_false]
  by_cases c4 : 224 ≤ c ∧ c < 240
  · refine Evt.pos (by omega) ?_
    rw [decide_eq_true (by omega), if_pos c4]
    refine Evt.succ ?_
    simp only [abridgerref1_Next.j2, if_true, k15]
    rw [show c % 16 = c - 224 by omega]
    refine j3 _ _ _ _ ?_
    rcases t with _ | ⟨d, t⟩
    · exact @rl0_out a [] c 3 (c - 224) 2048 0 (by simp) (by omega) (by omega) hl
    have hd := byte d (by simp)
    rcases t with _ | ⟨e, t⟩
    · refine @rl0_in a [d] c d 3 (c - 224) 2048 0 _ rfl hd (by omega) (by omega) (by omega) (by omega) hl (fun hk => ?_) (fun hk => rfl)
      exact @rl0_out a [d] c 3 _ 2048 1 (by simp) (by omega) (by omega) hl
    have he := byte e (by simp)
    refine @rl0_in a (d :: e :: t) c d 3 (c - 224) 2048 0 _ rfl hd (by omega) (by omega) (by omega) (by omega) hl (fun hk => ?_) (fun hk => if_neg (fun h => hk h.1))
    have hk' := hk
    unfold cont at hk'
    refine @rl0_in a (d :: e :: t) c e 3 _ 2048 1 _ rfl he (by omega) (by omega) (by omega) (by omega) hl (fun hk2 => ?_) (fun hk2 => if_neg (fun h => hk2 h.2))
    have hk2' := hk2
    unfold cont at hk2'
    have := @rl0_end (a ++ c :: d :: e :: t) (a.length : Int) 3 (((c - 224) * 64 + (d - 128)) * 64 + (e - 128)) 2048 (by omega)
    rw [fin_low (by omega) (Or.inr (Or.inr (Or.inl ⟨rfl, rfl, by omega⟩)))] at this
    show Evt _ (if cont d ∧ cont e then fin ((c - 224) * 4096 + (d - 128) * 64 + (e - 128)) 3 else bad)
    rw [if_pos ⟨hk, hk2⟩, show (c - 224) * 4096 + (d - 128) * 64 + (e - 128) = ((c - 224) * 64 + (d - 128)) * 64 + (e - 128) by omega]
    exact this
  rw [if_neg c4]
  have j4 : ∀ R, Evt (fun k => abridgerref1_Next.j2 k (a ++ c :: t) (a.length : Int) c false) R → Evt (fun k => if c ≥ 224 then abridgerref1_Next.j2 k (a ++ c :: t) (a.length : Int) c (decide (c < 240)) else abridgerref1_Next.j2 k (a ++ c :: t) (a.length : Int) c false) R := by
    intro R h
    by_cases h1 : c ≥ 224
    · refine Evt.pos h1 ?_
      rw [decide_eq_false (by omega)]
      exact h
    · exact Evt.neg h1 h
  refine j4 _ (Evt.succ ?_)
  simp only [abridgerref1_Next.j2, Bool.false_eq_true, if_false]
  by_cases c5 : 240 ≤ c ∧ c < 248
  · refine Evt.pos (by omega) (Evt.pos c5.2 ?_)
    rw [k7, show c % 8 = c - 240 by omega]
    refine j3 _ _ _ _ ?_
    rcases t with _ | ⟨d, t⟩
    · have h1 := @rl0_out a [] c 4 (c - 240) 65536 0 (by simp) (by omega) (by omega) hl
      split <;> exact h1
    have hd := byte d (by simp)
    rcases t with _ | ⟨e, t⟩
    · have h1 : Evt (fun k => abridgerref1_Next.l0 k (a ++ [c, d]) (a.length : Int) 4 (c - 240) 65536 1) bad := by
        refine @rl0_in a [d] c d 4 (c - 240) 65536 0 _ rfl hd (by omega) (by omega) (by omega) (by omega) hl (fun hk => ?_) (fun hk => rfl)
        exact @rl0_out a [d] c 4 _ 65536 1 (by simp) (by omega) (by omega) hl
      split <;> exact h1
    have he := byte e (by simp)
    rcases t with _ | ⟨f, t⟩
    · have h1 : Evt (fun k => abridgerref1_Next.l0 k (a ++ [c, d, e]) (a.length : Int) 4 (c - 240) 65536 1) bad := by
        refine @rl0_in a [d, e] c d 4 (c - 240) 65536 0 _ rfl hd (by omega) (by omega) (by omega) (by omega) hl (fun hk => ?_) (fun hk => rfl)
        unfold cont at hk
        refine @rl0_in a [d, e] c e 4 _ 65536 1 _ rfl he (by omega) (by omega) (by omega) (by omega) hl (fun hk => ?_) (fun hk => rfl)
        exact @rl0_out a [d, e] c 4 _ 65536 2 (by simp) (by omega) (by omega) hl
      split <;> exact h1
    have hf := byte f (by simp)
    have key : Evt (fun k => abridgerref1_Next.l0 k (a ++ c :: d :: e :: f :: t) (a.length : Int) 4 (c - 240) 65536 1) (if cont d ∧ cont e ∧ cont f then fin ((c - 240) * 262144 + (d - 128) * 4096 + (e - 128) * 64 + (f - 128)) 4 else bad) := by
      refine @rl0_in a (d :: e :: f :: t) c d 4 (c - 240) 65536 0 _ rfl hd (by omega) (by omega) (by omega) (by omega) hl (fun hk => ?_) (fun hk => if_neg (fun h => hk h.1))
      have hk' := hk
      unfold cont at hk'
      refine @rl0_in a (d :: e :: f :: t) c e 4 _ 65536 1 _ rfl he (by omega) (by omega) (by omega) (by omega) hl (fun hk2 => ?_) (fun hk2 => if_neg (fun h => hk2 h.2.1))
      have hk2' := hk2
      unfold cont at hk2'
      refine @rl0_in a (d :: e :: f :: t) c f 4 _ 65536 2 _ rfl hf (by omega) (by omega) (by omega) (by omega) hl (fun hk3 => ?_) (fun hk3 => if_neg (fun h => hk3 h.2.2))
      have hk3' := hk3
      unfold cont at hk3'
      have := @rl0_end (a ++ c :: d :: e :: f :: t) (a.length : Int) 4 ((((c - 240) * 64 + (d - 128)) * 64 + (e - 128)) * 64 + (f - 128)) 65536 (by omega)
      rw [fin_low (by omega) (Or.inr (Or.inr (Or.inr ⟨rfl, rfl⟩)))] at this
      rw [if_pos ⟨hk, hk2, hk3⟩, show (c - 240) * 262144 + (d - 128) * 4096 + (e - 128) * 64 + (f - 128) = (((c - 240) * 64 + (d - 128)) * 64 + (e - 128)) * 64 + (f - 128) by omega]
      exact this
    by_cases c6 : c < 245
    · simp only [if_pos (show 240 ≤ c ∧ c < 245 by omega)]
      exact key
    · rw [if_neg (by omega)]
      have hbad : (if cont d ∧ cont e ∧ cont f then fin ((c - 240) * 262144 + (d - 128) * 4096 + (e - 128) * 64 + (f - 128)) 4 else bad) = bad := by
        split
        · rename_i h
          unfold cont at h
          unfold fin isCp
          rw [if_neg (by omega)]
        · rfl
      rw [hbad] at key
      exact key
  rw [if_neg (show ¬ (240 ≤ c ∧ c < 245) by omega)]
  by_cases c7 : c ≥ 240
  · exact Evt.pos c7 (Evt.neg (by omega) (Evt.const _))
  · exact Evt.neg c7 (Evt.const _)
/-- The reference's Next answers as the model. -/
theorem ref_next_ev (l : List Int) (hb : Bytes l) (hl : (l.length : Int) ≤ 140737488355328) (i : Int) : Evt (fun k => abridgerref1_Next.f k l i) (nx l i) := by
  by_cases h0 : i < 0
  · rw [nx_out (Or.inl h0)]
    simp only [abridgerref1_Next.f]
    refine Evt.pos h0 (Evt.succ ?_)
    simp only [abridgerref1_Next.j0, if_true]
    exact Evt.const _
  by_cases h1 : (l.length : Int) ≤ i
  · rw [nx_out (Or.inr h1)]
    simp only [abridgerref1_Next.f]
    refine Evt.neg h0 ?_
    rw [decide_eq_true (by omega)]
    refine Evt.succ ?_
    simp only [abridgerref1_Next.j0, if_true]
    exact Evt.const _
  obtain ⟨a, c, t, rfl, rfl⟩ := split_at (l := l) (i := i) (by omega) (by omega)
  rw [nx_at]
  exact ref_next_at a c t hb.right hl
theorem ref_valid_from (t : List Int) (ht : (dec t).2.2 = false) (hbt : Bytes t) (rs : List Int) (hrs : ∀ r ∈ rs, isCp r) : ∀ a : List Int, ((a ++ (encAll rs ++ t)).length : Int) ≤ 140737488355328 → Bytes a →
    Evt (fun k => abridgerref1_Valid.l0 k (a ++ (encAll rs ++ t)) (a.length : Int)) (((a ++ encAll rs).length : Int), decide (t = [])) := by
  induction rs with
  | nil =>
    intro a hl ha
    refine Evt.succ ?_
    simp only [abridgerref1_Valid.l0, encAll_nil, List.nil_append, List.append_nil] at hl ⊢
    rcases t with _ | ⟨c, t⟩
    · refine Evt.neg (by simp) ?_
      exact Evt.const _
    · have hn := ref_next_ev (a ++ c :: t) (ha.append hbt) hl (a.length : Int)
      rw [nx_at, dec_false (by simp) ht] at hn
      refine Evt.pos (by simp; omega) (Evt.bind hn ?_)
      simp only [bad, Bool.false_eq_true, if_false]
      exact Evt.const _
  | cons r rs ih =>
    intro a hl ha
    have hr := hrs r (by simp)
    have hrs' : ∀ x ∈ rs, isCp x := fun x hx => hrs x (by simp [hx])
    have h1 := @enc_size r
    have h2 := size_range r
    have hn := ref_next_ev (a ++ (encAll (r :: rs) ++ t)) (ha.append ((encAll_bytes hrs).append hbt)) hl (a.length : Int)
    rw [nx_at, encAll_cons, List.append_assoc, dec_enc hr] at hn
    refine Evt.succ ?_
    rw [encAll_cons, List.append_assoc] at hl ⊢
    simp only [abridgerref1_Valid.l0]
    have hl' : ((a.length : Int) + ((enc r).length + ((encAll rs).length + t.length : Nat) : Nat)) ≤ 140737488355328 := by
      simp only [List.length_append] at hl
      omega
    refine Evt.pos (by simp only [List.length_append]; omega) (Evt.bind hn ?_)
    simp only [if_true]
    rw [wrap64_in (by omega) (by omega), show (a.length : Int) + size r = ((a ++ enc r).length : Int) by rw [← h1]; simp, ← List.append_assoc a, show a ++ (enc r ++ encAll rs) = (a ++ enc r) ++ encAll rs by rw [List.append_assoc]]
    exact ih hrs' (a ++ enc r) (by rw [List.append_assoc]; exact hl) (ha.append (enc_bytes hr))
theorem ref_valid_ev {rs t : List Int} (hrs : ∀ r ∈ rs, isCp r) (ht : (dec t).2.2 = false) (hbt : Bytes t) (hl : ((encAll rs ++ t).length : Int) ≤ 140737488355328) :
    Evt (fun k => abridgerref1_Valid.f k (encAll rs ++ t)) (((encAll rs).length : Int), decide (t = [])) := by
  simp only [abridgerref1_Valid.f]
  exact ref_valid_from t ht hbt rs hrs [] hl Bytes.nil

end Go.Proofs.Ytcioifijkonplaa.RefEq

/- The reference's jtext and JUnits, as they are printed in plain Lean, answer as Jstr's Jt and Reads say. -/
namespace Go.Proofs.Ytcioifijkonplaa.JstrEq
open Go.RowKit Go.Proofs.YtcioifijkonplaaW.PrintWords Go.Proofs.Ytcioifijkonplaa.Base Go.Proofs.Ytcioifijkonplaa.Utf Go.Proofs.Ytcioifijkonplaa.UtfEq Go.Proofs.Ytcioifijkonplaa.RefEq Go.Proofs.Ytcioifijkonplaa.Jstr Go.Proofs.Ytcioifijkonplaa.Q

theorem hexDigit_ev {c : Int} (h0 : 0 ≤ c) (h1 : c < 256) : Evt (fun k => abridgerref1_hexDigit.f k c) (hexv c) := by
  have j1 : Evt (fun k => abridgerref1_hexDigit.j1 k c false) (if 65 ≤ c ∧ c ≤ 70 then c - 55 else -1) := by
    refine Evt.succ ?_
    simp only [abridgerref1_hexDigit.j1, Bool.false_eq_true, if_false]
    by_cases c1 : c ≥ 65
    · by_cases c2 : c ≤ 70
      · rw [if_pos (show 65 ≤ c ∧ c ≤ 70 from ⟨c1, c2⟩)]
        exact Evt.pos c1 (Evt.pos c2 (Evt.of (congrArg some (by omega))))
      · rw [if_neg (show ¬ (65 ≤ c ∧ c ≤ 70) by omega)]
        exact Evt.pos c1 (Evt.neg c2 (Evt.const _))
    · rw [if_neg (show ¬ (65 ≤ c ∧ c ≤ 70) by omega)]
      exact Evt.neg c1 (Evt.const _)
  have j0 : ¬ (48 ≤ c ∧ c ≤ 57) → Evt (fun k => abridgerref1_hexDigit.j0 k c false) (hexv c) := by
    intro hn
    unfold hexv
    rw [if_neg hn]
    refine Evt.succ ?_
    simp only [abridgerref1_hexDigit.j0, Bool.false_eq_true, if_false]
    by_cases c1 : c ≥ 97
    · refine Evt.pos c1 ?_
      by_cases c2 : c ≤ 102
      · rw [decide_eq_true c2, if_pos (show 97 ≤ c ∧ c ≤ 102 from ⟨c1, c2⟩)]
        refine Evt.succ ?_
        simp only [abridgerref1_hexDigit.j1, if_true]
        exact Evt.of (congrArg some (by omega))
      · rw [decide_eq_false c2, if_neg (show ¬ (97 ≤ c ∧ c ≤ 102) by omega)]
        exact j1
    · rw [if_neg (show ¬ (97 ≤ c ∧ c ≤ 102) by omega)]
      exact Evt.neg c1 j1
  simp only [abridgerref1_hexDigit.f]
  by_cases c1 : c ≥ 48
  · refine Evt.pos c1 ?_
    by_cases c2 : c ≤ 57
    · rw [decide_eq_true c2]
      unfold hexv
      rw [if_pos ⟨c1, c2⟩]
      refine Evt.succ ?_
      simp only [abridgerref1_hexDigit.j0, if_true]
      exact Evt.of (congrArg some (by omega))
    · rw [decide_eq_false c2]
      exact j0 (by omega)
  · exact Evt.neg c1 (j0 (by omega))

abbrev EL : ByteArray := ⟨#[34, 92, 47, 98, 102, 110, 114, 116]⟩
/-- Behind a backslash: found already. -/
theorem l2_true {x : List Int} {i v : Int} (h2 : wrap64 (i + 1) < (x.length : Int)) (h : Evt (fun k => abridgerref1_jtext.l0 k x (wrap64 (i + 2))) v) (d : Nat) : ∀ j : Int, 0 ≤ j → j + (d : Int) = 8 → Evt (fun k => abridgerref1_jtext.l2 k x i true EL j) v := by
  induction d with
  | zero =>
    intro j h0 h1
    refine Evt.succ ?_
    simp only [abridgerref1_jtext.l2]
    refine Evt.neg (by show ¬ (j < 8); omega) ?_
    exact Evt.pos (by simp) h
  | succ d ih =>
    intro j h0 h1
    refine Evt.succ ?_
    simp only [abridgerref1_jtext.l2]
    have w : wrap64 (j + 1) = j + 1 := wrap64_in (by omega) (by omega)
    refine Evt.pos (by show j < 8; omega) (Evt.pos h2 ?_)
    rw [w]
    clear w
    exact Evt.pos (by simp) (ih (j + 1) (by omega) (by omega))
theorem l2_step {x : List Int} {i v : Int} {b : Bool} (hi : 0 ≤ wrap64 (i + 1)) (h2 : wrap64 (i + 1) < (x.length : Int)) {j : Int} (h0 : 0 ≤ j) (h1 : j < 8) (hb : b = ((rd x (wrap64 (i + 1))) == (bt EL j))) (h : Evt (fun k => abridgerref1_jtext.l2 k x i b EL (j + 1)) v) : Evt (fun k => abridgerref1_jtext.l2 k x i false EL j) v := by
  refine Evt.succ ?_
  simp only [abridgerref1_jtext.l2]
  have w : wrap64 (j + 1) = j + 1 := wrap64_in (by omega) (by omega)
  refine Evt.pos (by show j < 8; omega) (Evt.pos h2 (Evt.neg (by decide) (Evt.pos hi (Evt.pos h0 ?_))))
  rw [w, ← hb]
  exact h
theorem l2_end {x : List Int} {i : Int} : Evt (fun k => abridgerref1_jtext.l2 k x i false EL 8) (-1) := by
  refine Evt.succ ?_
  simp only [abridgerref1_jtext.l2]
  exact Evt.neg (by decide) (Evt.neg (by decide) (Evt.const _))
theorem l2_ev {x : List Int} {i v : Int} (hi : 0 ≤ wrap64 (i + 1)) (h2 : wrap64 (i + 1) < (x.length : Int)) (h : esc (rd x (wrap64 (i + 1))) → Evt (fun k => abridgerref1_jtext.l0 k x (wrap64 (i + 2))) v) (hn : ¬ esc (rd x (wrap64 (i + 1))) → v = -1) : Evt (fun k => abridgerref1_jtext.l2 k x i false EL 0) v := by
  have T := fun he : esc (rd x (wrap64 (i + 1))) => @l2_true x i v h2 (h he)
  generalize hc : rd x (wrap64 (i + 1)) = c at h hn T
  unfold esc at h hn T
  by_cases e0 : c = 34
  · exact l2_step hi h2 (j := 0) (by omega) (by omega) (b := true) (by rw [hc, e0]; rfl) (T (by omega) 7 1 (by omega) (by omega))
  refine l2_step hi h2 (j := 0) (by omega) (by omega) (b := false) (by rw [hc]; exact (beq_false_of_ne e0).symm) ?_
  by_cases e1 : c = 92
  · exact l2_step hi h2 (j := 1) (by omega) (by omega) (b := true) (by rw [hc, e1]; rfl) (T (by omega) 6 2 (by omega) (by omega))
  refine l2_step hi h2 (j := 1) (by omega) (by omega) (b := false) (by rw [hc]; exact (beq_false_of_ne e1).symm) ?_
  by_cases e2 : c = 47
  · exact l2_step hi h2 (j := 2) (by omega) (by omega) (b := true) (by rw [hc, e2]; rfl) (T (by omega) 5 3 (by omega) (by omega))
  refine l2_step hi h2 (j := 2) (by omega) (by omega) (b := false) (by rw [hc]; exact (beq_false_of_ne e2).symm) ?_
  by_cases e3 : c = 98
  · exact l2_step hi h2 (j := 3) (by omega) (by omega) (b := true) (by rw [hc, e3]; rfl) (T (by omega) 4 4 (by omega) (by omega))
  refine l2_step hi h2 (j := 3) (by omega) (by omega) (b := false) (by rw [hc]; exact (beq_false_of_ne e3).symm) ?_
  by_cases e4 : c = 102
  · exact l2_step hi h2 (j := 4) (by omega) (by omega) (b := true) (by rw [hc, e4]; rfl) (T (by omega) 3 5 (by omega) (by omega))
  refine l2_step hi h2 (j := 4) (by omega) (by omega) (b := false) (by rw [hc]; exact (beq_false_of_ne e4).symm) ?_
  by_cases e5 : c = 110
  · exact l2_step hi h2 (j := 5) (by omega) (by omega) (b := true) (by rw [hc, e5]; rfl) (T (by omega) 2 6 (by omega) (by omega))
  refine l2_step hi h2 (j := 5) (by omega) (by omega) (b := false) (by rw [hc]; exact (beq_false_of_ne e5).symm) ?_
  by_cases e6 : c = 114
  · exact l2_step hi h2 (j := 6) (by omega) (by omega) (b := true) (by rw [hc, e6]; rfl) (T (by omega) 1 7 (by omega) (by omega))
  refine l2_step hi h2 (j := 6) (by omega) (by omega) (b := false) (by rw [hc]; exact (beq_false_of_ne e6).symm) ?_
  by_cases e7 : c = 116
  · exact l2_step hi h2 (j := 7) (by omega) (by omega) (b := true) (by rw [hc, e7]; rfl) (T (by omega) 0 8 (by omega) (by omega))
  refine l2_step hi h2 (j := 7) (by omega) (by omega) (b := false) (by rw [hc]; exact (beq_false_of_ne e7).symm) ?_
  rw [hn (by omega)]
  exact l2_end
/-- One digit of four. -/
theorem l1_in {x : List Int} {i j v c : Int} (hi : 0 ≤ i) (hi2 : i ≤ 1000000010) (hj : 0 ≤ j) (hji : j < i + 6) (hjl : j < (x.length : Int)) (hc : rd x j = c) (h0 : 0 ≤ c ∧ c < 256) (hn : ¬ 0 ≤ hexv c → v = -1) (h : 0 ≤ hexv c → Evt (fun k => abridgerref1_jtext.l1 k x i (j + 1)) v) : Evt (fun k => abridgerref1_jtext.l1 k x i j) v := by
  have w1 : wrap64 (i + 6) = i + 6 := wrap64_in (by omega) (by omega)
  have w2 : wrap64 (j + 1) = j + 1 := wrap64_in (by omega) (by omega)
  refine Evt.succ ?_
  simp only [abridgerref1_jtext.l1, w1, w2, hc]
  clear w1 w2 hc
  refine Evt.pos hji (Evt.neg (by omega) (Evt.pos hj (Evt.pos hjl (Evt.bind (hexDigit_ev h0.1 h0.2) ?_))))
  by_cases hx : 0 ≤ hexv c
  · exact Evt.neg (by omega) (h hx)
  · rw [hn hx]
    exact Evt.pos (by omega) (Evt.const _)
theorem l1_out {x : List Int} {i j : Int} (hi : 0 ≤ i) (hi2 : i ≤ 1000000010) (hji : j < i + 6) (hjl : (x.length : Int) ≤ j) : Evt (fun k => abridgerref1_jtext.l1 k x i j) (-1) := by
  have w1 : wrap64 (i + 6) = i + 6 := wrap64_in (by omega) (by omega)
  refine Evt.succ ?_
  simp only [abridgerref1_jtext.l1, w1]
  clear w1
  exact Evt.pos hji (Evt.pos (by omega) (Evt.const _))
theorem l1_end {x : List Int} {i v : Int} (hi : 0 ≤ i) (hi2 : i ≤ 1000000010) (h : Evt (fun k => abridgerref1_jtext.l0 k x (i + 6)) v) : Evt (fun k => abridgerref1_jtext.l1 k x i (i + 6)) v := by
  have w1 : wrap64 (i + 6) = i + 6 := wrap64_in (by omega) (by omega)
  refine Evt.succ ?_
  simp only [abridgerref1_jtext.l1, w1]
  clear w1
  exact Evt.neg (by omega) h
theorem rd_k (a : List Int) (t : List Int) (j : Nat) : rd (a ++ t) ((a.length : Int) + (j : Int)) = rd t (j : Int) := rd_append' a t j
/-- Where a text of JSON ends. -/
theorem jtext_l0 (n : Nat) : ∀ (t a : List Int), t.length ≤ n → Bytes t → ((a ++ t).length : Int) ≤ 1000000000 →
    ∃ v, Evt (fun k => abridgerref1_jtext.l0 k (a ++ t) (a.length : Int)) v ∧ (v = ((a ++ t).length : Int) ↔ Jt t) := by
  induction n with
  | zero =>
    intro t a hn _ hl
    obtain rfl : t = [] := List.length_eq_zero_iff.1 (by omega)
    refine ⟨-1, ?_, ?_⟩
    · refine Evt.succ ?_
      simp only [abridgerref1_jtext.l0]
      exact Evt.neg (by simp) (Evt.const _)
    · constructor
      · intro h; simp only [List.append_nil] at h; omega
      · intro h; cases h
  | succ n ih =>
    intro t a hn hb hl
    rcases t with _ | ⟨c, t⟩
    · refine ⟨-1, ?_, ?_⟩
      · refine Evt.succ ?_
        simp only [abridgerref1_jtext.l0]
        exact Evt.neg (by simp) (Evt.const _)
      · constructor
        · intro h; simp only [List.append_nil] at h; omega
        · intro h; cases h
    have hc := hb.head
    have hl' := hl
    simp only [List.length_append, List.length_cons] at hl'
    simp only [List.length_cons] at hn
    have w1 : wrap64 ((a.length : Int) + 1) = (a.length : Int) + 1 := wrap64_in (by omega) (by omega)
    have w2 : wrap64 ((a.length : Int) + 2) = (a.length : Int) + 2 := wrap64_in (by omega) (by omega)
    have e1 : (a.length : Int) < ((a ++ c :: t).length : Int) := by simp only [List.length_append, List.length_cons]; omega
    have key : ∀ (v : Int) (P : Prop), (Evt (fun k => (if (c = 34) then (some ((a.length : Int) + 1)) else (if c < 32 then (some (-1)) else (if c = 92 then (if ((a.length : Int) + 1) < ((a ++ c :: t).length : Int) then (if 0 ≤ ((a.length : Int) + 1) then (abridgerref1_jtext.j1 k (a ++ c :: t) (a.length : Int) ((rd (a ++ c :: t) ((a.length : Int) + 1)) == 117)) else (none)) else (abridgerref1_jtext.j1 k (a ++ c :: t) (a.length : Int) false)) else (abridgerref1_jtext.l0 k (a ++ c :: t) ((a.length : Int) + 1)))))) v ∧ P) → Evt (fun k => abridgerref1_jtext.l0 k (a ++ c :: t) (a.length : Int)) v ∧ P := by
      intro v P h
      refine ⟨Evt.succ ?_, h.2⟩
      simp only [abridgerref1_jtext.l0, rd_append, w1]
      exact Evt.pos e1 (Evt.pos (by omega) h.1)
    by_cases c1 : c = 34
    · subst c1
      refine ⟨(a.length : Int) + 1, key _ _ ⟨Evt.pos rfl (Evt.const _), ?_⟩⟩
      clear w1 w2
      constructor
      · intro h
        obtain rfl : t = [] := by
          rw [← List.length_eq_zero_iff]
          simp only [List.length_append, List.length_cons] at h
          omega
        exact Jt.done
      · intro h
        cases h with
        | done => simp
        | ch _ h2 _ _ => exact absurd rfl h2
    by_cases c2 : c < 32
    · refine ⟨-1, key _ _ ⟨Evt.neg c1 (Evt.pos c2 (Evt.const _)), ?_⟩⟩
      clear w1 w2
      constructor
      · intro h; omega
      · intro h
        cases h with
        | done => omega
        | ch h1 _ _ _ => omega
        | u => omega
        | e => omega
    by_cases c3 : c = 92
    · subst c3
      rcases t with _ | ⟨d, t⟩
      · refine ⟨-1, key _ _ ⟨Evt.neg c1 (Evt.neg c2 (Evt.pos rfl (Evt.neg (by simp) ?_))), ?_⟩⟩
        · refine Evt.succ ?_
          simp only [abridgerref1_jtext.j1, Bool.false_eq_true, if_false]
          refine Evt.succ ?_
          simp only [abridgerref1_jtext.l2, w1]
          exact Evt.pos (by decide) (Evt.neg (by simp) (Evt.neg (by decide) (Evt.const _)))
        · constructor
          · intro h; simp at h; omega
          · intro h
            cases h with
            | ch _ _ h3 _ => exact absurd rfl h3
      have hd := hb.tail.head
      have hbt := hb.tail.tail
      have hrd : rd (a ++ 92 :: d :: t) ((a.length : Int) + 1) = d := by
        have := rd_append' a (92 :: d :: t) 1
        exact this
      simp only [List.length_cons] at hn hl'
      have e2 : (a.length : Int) + 1 < ((a ++ 92 :: d :: t).length : Int) := by simp only [List.length_append, List.length_cons]; omega
      have e3 : 0 ≤ (a.length : Int) + 1 := by omega
      by_cases c4 : d = 117
      · subst c4
        -- four digits
        have go : ∀ v, Evt (fun k => abridgerref1_jtext.l1 k (a ++ 92 :: 117 :: t) (a.length : Int) ((a.length : Int) + 2)) v → ∀ P : Prop, P → Evt (fun k => abridgerref1_jtext.l0 k (a ++ 92 :: 117 :: t) (a.length : Int)) v ∧ P := by
          intro v h P hP
          refine key _ _ ⟨Evt.neg c1 (Evt.neg c2 (Evt.pos rfl (Evt.pos e2 (Evt.pos e3 ?_)))), hP⟩
          rw [hrd]
          refine Evt.succ ?_
          simp only [abridgerref1_jtext.j1, w2]
          exact Evt.pos rfl h
        have inv : Jt (92 :: 117 :: t) → ∃ p q r s t', t = p :: q :: r :: s :: t' ∧ 0 ≤ hexv p ∧ 0 ≤ hexv q ∧ 0 ≤ hexv r ∧ 0 ≤ hexv s ∧ Jt t' := by
          intro h
          cases h with
          | ch _ _ h3 _ => exact absurd rfl h3
          | u h1 h2 h3 h4 h5 => exact ⟨_, _, _, _, _, rfl, h1, h2, h3, h4, h5⟩
          | e h1 _ => exact absurd rfl (esc_range h1).2.2
        have bad : (¬ Jt (92 :: 117 :: t)) → ((-1 : Int) = ((a ++ 92 :: 117 :: t).length : Int) ↔ Jt (92 :: 117 :: t)) := by
          intro h
          constructor
          · intro h2; omega
          · intro h2; exact absurd h2 h
        have l1 := fun (v c : Int) (j : Nat) (hj : j < 4) (hjt : 2 + j < (92 :: 117 :: t).length) (hc : rd (92 :: 117 :: t) ((2 + j : Nat) : Int) = c) => @l1_in (a ++ 92 :: 117 :: t) (a.length : Int) ((a.length : Int) + ((2 + j : Nat) : Int)) v c (by omega) (by omega) (by omega) (by omega) (by simp only [List.length_append] at hjt ⊢; omega) (by rw [rd_append' a _ (2 + j)]; exact hc)
        have lo := fun (j : Nat) (hj : j < 4) (hjt : (92 :: 117 :: t).length ≤ 2 + j) => @l1_out (a ++ 92 :: 117 :: t) (a.length : Int) ((a.length : Int) + ((2 + j : Nat) : Int)) (by omega) (by omega) (by omega) (by simp only [List.length_append] at hjt ⊢; omega)
        have byte : ∀ y, y ∈ t → 0 ≤ y ∧ y < 256 := fun y hy => hbt y hy
        rcases t with _ | ⟨p, t⟩
        · exact ⟨-1, go _ (lo 0 (by omega) (by simp)) _ (bad fun h => by obtain ⟨_, _, _, _, _, h, _⟩ := inv h; simp at h)⟩
        by_cases x1 : 0 ≤ hexv p
        rotate_left
        · exact ⟨-1, go _ (l1 (-1) p 0 (by omega) (by simp) rfl (byte p (by simp)) (fun _ => rfl) (fun h => absurd h x1)) _ (bad fun h => by obtain ⟨_, _, _, _, _, h, h2, _⟩ := inv h; simp only [List.cons.injEq] at h; rw [← h.1] at h2; exact x1 h2)⟩
        rcases t with _ | ⟨q, t⟩
        · exact ⟨-1, go _ (l1 (-1) p 0 (by omega) (by simp) rfl (byte p (by simp)) (fun _ => rfl) (fun _ => lo 1 (by omega) (by simp))) _ (bad fun h => by obtain ⟨_, _, _, _, _, h, _⟩ := inv h; simp at h)⟩
        by_cases x2 : 0 ≤ hexv q
        rotate_left
        · exact ⟨-1, go _ (l1 (-1) p 0 (by omega) (by simp) rfl (byte p (by simp)) (fun _ => rfl) (fun _ => l1 (-1) q 1 (by omega) (by simp) rfl (byte q (by simp)) (fun _ => rfl) (fun h => absurd h x2))) _ (bad fun h => by obtain ⟨_, _, _, _, _, h, _, h2, _⟩ := inv h; simp only [List.cons.injEq] at h; rw [← h.2.1] at h2; exact x2 h2)⟩
        rcases t with _ | ⟨r, t⟩
        · exact ⟨-1, go _ (l1 (-1) p 0 (by omega) (by simp) rfl (byte p (by simp)) (fun _ => rfl) (fun _ => l1 (-1) q 1 (by omega) (by simp) rfl (byte q (by simp)) (fun _ => rfl) (fun _ => lo 2 (by omega) (by simp)))) _ (bad fun h => by obtain ⟨_, _, _, _, _, h, _⟩ := inv h; simp at h)⟩
        by_cases x3 : 0 ≤ hexv r
        rotate_left
        · exact ⟨-1, go _ (l1 (-1) p 0 (by omega) (by simp) rfl (byte p (by simp)) (fun _ => rfl) (fun _ => l1 (-1) q 1 (by omega) (by simp) rfl (byte q (by simp)) (fun _ => rfl) (fun _ => l1 (-1) r 2 (by omega) (by simp) rfl (byte r (by simp)) (fun _ => rfl) (fun h => absurd h x3)))) _ (bad fun h => by obtain ⟨_, _, _, _, _, h, _, _, h2, _⟩ := inv h; simp only [List.cons.injEq] at h; rw [← h.2.2.1] at h2; exact x3 h2)⟩
        rcases t with _ | ⟨s, t⟩
        · exact ⟨-1, go _ (l1 (-1) p 0 (by omega) (by simp) rfl (byte p (by simp)) (fun _ => rfl) (fun _ => l1 (-1) q 1 (by omega) (by simp) rfl (byte q (by simp)) (fun _ => rfl) (fun _ => l1 (-1) r 2 (by omega) (by simp) rfl (byte r (by simp)) (fun _ => rfl) (fun _ => lo 3 (by omega) (by simp))))) _ (bad fun h => by obtain ⟨_, _, _, _, _, h, _⟩ := inv h; simp at h)⟩
        by_cases x4 : 0 ≤ hexv s
        rotate_left
        · exact ⟨-1, go _ (l1 (-1) p 0 (by omega) (by simp) rfl (byte p (by simp)) (fun _ => rfl) (fun _ => l1 (-1) q 1 (by omega) (by simp) rfl (byte q (by simp)) (fun _ => rfl) (fun _ => l1 (-1) r 2 (by omega) (by simp) rfl (byte r (by simp)) (fun _ => rfl) (fun _ => l1 (-1) s 3 (by omega) (by simp) rfl (byte s (by simp)) (fun _ => rfl) (fun h => absurd h x4))))) _ (bad fun h => by obtain ⟨_, _, _, _, _, h, _, _, _, h2, _⟩ := inv h; simp only [List.cons.injEq] at h; rw [← h.2.2.2.1] at h2; exact x4 h2)⟩
        have hbt2 : Bytes t := fun y hy => hbt y (by simp [hy])
        have ea : a ++ 92 :: 117 :: p :: q :: r :: s :: t = (a ++ [92, 117, p, q, r, s]) ++ t := by simp
        have el : (a.length : Int) + 6 = ((a ++ [92, 117, p, q, r, s]).length : Int) := by simp
        obtain ⟨v, h1, h2⟩ := ih t (a ++ [92, 117, p, q, r, s]) (by simp only [List.length_cons] at hn; omega) hbt2 (by rw [← ea]; exact hl)
        rw [← ea, ← el] at h1
        rw [← ea] at h2
        refine ⟨v, go _ (l1 v p 0 (by omega) (by simp) rfl (byte p (by simp)) (fun h => absurd x1 h) (fun _ => l1 v q 1 (by omega) (by simp) rfl (byte q (by simp)) (fun h => absurd x2 h) (fun _ => l1 v r 2 (by omega) (by simp) rfl (byte r (by simp)) (fun h => absurd x3 h) (fun _ => l1 v s 3 (by omega) (by simp) rfl (byte s (by simp)) (fun h => absurd x4 h) (fun _ => l1_end (by omega) (by omega) h1))))) _ (h2.trans ⟨fun h => Jt.u x1 x2 x3 x4 h, fun h => ?_⟩)⟩
        obtain ⟨_, _, _, _, _, h, _, _, _, _, h3⟩ := inv h
        simp only [List.cons.injEq] at h
        rw [← h.2.2.2.2] at h3
        exact h3
      · have ea : a ++ 92 :: d :: t = (a ++ [92, d]) ++ t := by simp
        have el : (a.length : Int) + 2 = ((a ++ [92, d]).length : Int) := by simp
        obtain ⟨v, h1, h2⟩ := ih t (a ++ [92, d]) (by omega) hbt (by rw [← ea]; exact hl)
        rw [← ea, ← el] at h1
        rw [← ea] at h2
        have go : ∀ v, Evt (fun k => abridgerref1_jtext.l2 k (a ++ 92 :: d :: t) (a.length : Int) false EL 0) v → ∀ P : Prop, P → Evt (fun k => abridgerref1_jtext.l0 k (a ++ 92 :: d :: t) (a.length : Int)) v ∧ P := by
          intro v h P hP
          refine key _ _ ⟨Evt.neg c1 (Evt.neg c2 (Evt.pos rfl (Evt.pos e2 (Evt.pos e3 ?_)))), hP⟩
          rw [hrd, beq_false_of_ne c4]
          refine Evt.succ ?_
          simp only [abridgerref1_jtext.j1]
          exact Evt.neg (by decide) h
        have L := fun v => @l2_ev (a ++ 92 :: d :: t) (a.length : Int) v
        rw [w1, w2, hrd] at L
        clear w1 w2
        by_cases c5 : esc d
        · refine ⟨v, go v (L v e3 e2 (fun _ => h1) (fun h => absurd c5 h)) _ (h2.trans ⟨fun h => Jt.e c5 h, fun h => ?_⟩)⟩
          cases h with
          | ch _ _ h3 _ => exact absurd rfl h3
          | u => exact absurd rfl c4
          | e _ h => exact h
        · refine ⟨-1, go (-1) (L (-1) e3 e2 (fun h => absurd h c5) (fun _ => rfl)) _ ⟨fun h => by omega, fun h => ?_⟩⟩
          cases h with
          | ch _ _ h3 _ => exact absurd rfl h3
          | u => exact absurd rfl c4
          | e h _ => exact absurd h c5
    · have ea : a ++ c :: t = (a ++ [c]) ++ t := by simp
      have el : (a.length : Int) + 1 = ((a ++ [c]).length : Int) := by simp
      obtain ⟨v, h1, h2⟩ := ih t (a ++ [c]) (by omega) hb.tail (by rw [← ea]; exact hl)
      rw [← ea, ← el] at h1
      rw [← ea] at h2
      refine ⟨v, key _ _ ⟨Evt.neg c1 (Evt.neg c2 (Evt.neg c3 h1)), h2.trans ⟨fun h => Jt.ch (by omega) c1 c3 h, fun h => ?_⟩⟩⟩
      cases h with
      | done => exact absurd rfl c1
      | ch _ _ _ h => exact h
      | u => exact absurd rfl c3
      | e => exact absurd rfl c3
end Go.Proofs.Ytcioifijkonplaa.JstrEq

/- The reference's JUnits, as it is printed in plain Lean, answers as Jstr's Reads says. -/
namespace Go.Proofs.Ytcioifijkonplaa.JstrEq
open Go.RowKit Go.Proofs.YtcioifijkonplaaW.PrintWords Go.Proofs.Ytcioifijkonplaa.Base Go.Proofs.Ytcioifijkonplaa.Utf Go.Proofs.Ytcioifijkonplaa.UtfEq Go.Proofs.Ytcioifijkonplaa.RefEq Go.Proofs.Ytcioifijkonplaa.Jstr Go.Proofs.Ytcioifijkonplaa.Q

theorem i64_or4 {x y : Int} (hx : 0 ≤ x) (hx1 : x < 33554432) (h0 : 0 ≤ y) (h1 : y < 16) : bits .or .i64 (x * 16) y = x * 16 + y :=
  bits_join .i64 31 (by decide) wraps_i64 4 (x * 16) y (by omega) (by omega) (by omega) h0 h1 (by omega)
theorem i64_and1023 {x : Int} (h0 : 0 ≤ x) (h1 : x < 2147483648) : bits .and .i64 x 1023 = x % 1024 :=
  bits_mask .i64 31 (by decide) wraps_i64 10 (by decide) x h0 h1
theorem pair_eq {r : Int} (h : isCp r) : abridgerref1_pair.f r = some (pr r) := by
  unfold isCp at h
  unfold abridgerref1_pair.f pr
  by_cases c : r < 65536
  · rw [if_pos c, if_pos c]
  · rw [if_neg c, if_neg c, wrap64_in (n := r - 65536) (by omega) (by omega), i64_and1023 (by omega) (by omega), wrap64_in (by omega) (by omega), wrap64_in (by omega) (by omega)]
theorem u_in {x acc : List Int} {i j v c : Int} {R : List Int × Bool} (hi : 0 ≤ i) (hi2 : i ≤ 1000000010) (hj : 0 ≤ j) (hji : j < i + 6) (hjl : j < (x.length : Int)) (hc : rd x j = c) (hh : 0 ≤ hexv c) (hv : 0 ≤ v) (hv2 : v < 1048576) (h : Evt (fun k => abridgerref1_JUnits.l1 k x acc i (v * 16 + hexv c) (j + 1)) R) : Evt (fun k => abridgerref1_JUnits.l1 k x acc i v j) R := by
  have w1 : wrap64 (i + 6) = i + 6 := wrap64_in (by omega) (by omega)
  have w2 : wrap64 (j + 1) = j + 1 := wrap64_in (by omega) (by omega)
  have w3 : wrap64 (v * 16) = v * 16 := wrap64_in (by omega) (by omega)
  have hx := hexv_range hh
  have hd := hexDigit_ev (c := c) (by omega) (by omega)
  have ho := i64_or4 hv (by omega) hh (hexv_lt c)
  refine Evt.succ ?_
  simp only [abridgerref1_JUnits.l1, w1, w2, w3, hc]
  clear w1 w2 w3 hc
  refine Evt.pos hji (Evt.pos hj (Evt.pos hjl (Evt.bind hd ?_)))
  rw [ho]
  exact h
theorem u_end {x acc : List Int} {i v : Int} {R : List Int × Bool} (hi : 0 ≤ i) (hi2 : i ≤ 1000000010) (ha : acc.length ≤ 1000000010) (h : Evt (fun k => abridgerref1_JUnits.l0 k x (acc ++ [v]) (i + 6)) R) : Evt (fun k => abridgerref1_JUnits.l1 k x acc i v (i + 6)) R := by
  have w1 : wrap64 (i + 6) = i + 6 := wrap64_in (by omega) (by omega)
  refine Evt.succ ?_
  simp only [abridgerref1_JUnits.l1, w1]
  clear w1
  exact Evt.neg (by omega) (Evt.pos (by omega) h)
/-- The head of a round: not the last byte. -/
theorem l0_round {a acc : List Int} {c : Int} {t : List Int} {R : List Int × Bool} (hl : ((a ++ c :: t).length : Int) ≤ 1000000000) (ht : 1 ≤ t.length)
    (h : Evt (fun k => if c = 92 then (if 0 ≤ (a.length : Int) + 1 then (if (a.length : Int) + 1 < ((a ++ c :: t).length : Int) then (if (rd (a ++ c :: t) ((a.length : Int) + 1)) = 117 then (abridgerref1_JUnits.l1 k (a ++ c :: t) acc (a.length : Int) 0 ((a.length : Int) + 2)) else (if (rd (a ++ c :: t) ((a.length : Int) + 1)) = 98 then (if acc.length < 17592186044416 then (abridgerref1_JUnits.l0 k (a ++ c :: t) (acc ++ [8]) ((a.length : Int) + 2)) else (none)) else (if (rd (a ++ c :: t) ((a.length : Int) + 1)) = 102 then (if acc.length < 17592186044416 then (abridgerref1_JUnits.l0 k (a ++ c :: t) (acc ++ [12]) ((a.length : Int) + 2)) else (none)) else (if (rd (a ++ c :: t) ((a.length : Int) + 1)) = 110 then (if acc.length < 17592186044416 then (abridgerref1_JUnits.l0 k (a ++ c :: t) (acc ++ [10]) ((a.length : Int) + 2)) else (none)) else (if (rd (a ++ c :: t) ((a.length : Int) + 1)) = 114 then (if acc.length < 17592186044416 then (abridgerref1_JUnits.l0 k (a ++ c :: t) (acc ++ [13]) ((a.length : Int) + 2)) else (none)) else (if (rd (a ++ c :: t) ((a.length : Int) + 1)) = 116 then (if acc.length < 17592186044416 then (abridgerref1_JUnits.l0 k (a ++ c :: t) (acc ++ [9]) ((a.length : Int) + 2)) else (none)) else (if acc.length < 17592186044416 then (abridgerref1_JUnits.l0 k (a ++ c :: t) (acc ++ [wrap64 (rd (a ++ c :: t) ((a.length : Int) + 1))]) ((a.length : Int) + 2)) else (none)))))))) else (none)) else (none)) else ((abridgerref1_Next.f k (a ++ c :: t) (a.length : Int)).bind fun bt288 => ((abridgerref1_pair.f bt288.1).bind fun t291 => (if acc.length + t291.length < 17592186044416 then (abridgerref1_JUnits.l0 k (a ++ c :: t) (acc ++ t291) (wrap64 ((a.length : Int) + bt288.2.1))) else (none))))) R) :
    Evt (fun k => abridgerref1_JUnits.l0 k (a ++ c :: t) acc (a.length : Int)) R := by
  have hl' := hl
  simp only [List.length_append, List.length_cons] at hl'
  have w1 : wrap64 ((a.length : Int) + 1) = (a.length : Int) + 1 := wrap64_in (by omega) (by omega)
  have w2 : wrap64 ((a.length : Int) + 2) = (a.length : Int) + 2 := wrap64_in (by omega) (by omega)
  have w3 : wrap64 (((a ++ c :: t).length : Int) - 1) = ((a ++ c :: t).length : Int) - 1 := wrap64_in (by omega) (by omega)
  refine Evt.succ ?_
  simp only [abridgerref1_JUnits.l0, rd_append, w1, w2, w3]
  clear w1 w2 w3
  refine Evt.pos (by simp only [List.length_append, List.length_cons]; omega) (Evt.pos (by omega) (Evt.pos (by simp only [List.length_append, List.length_cons]; omega) ?_))
  exact h
theorem reads_pos {t l : List Int} (h : Reads t l) : 1 ≤ t.length := by
  have := reads_least h
  omega
theorem reads_bytes {t l : List Int} (h : Reads t l) : Bytes t := by
  obtain ⟨rs, h1, rfl⟩ := reads_cps h
  exact encAll_bytes h1
theorem units_l0 {t l : List Int} (h : Reads t l) : ∀ (a acc : List Int), ((a ++ t).length : Int) ≤ 1000000000 → acc.length ≤ a.length →
    Evt (fun k => abridgerref1_JUnits.l0 k (a ++ t) acc (a.length : Int)) (acc ++ l, true) := by
  induction h with
  | done =>
    intro a acc hl ha
    have w3 : wrap64 (((a ++ [34]).length : Int) - 1) = ((a ++ [34]).length : Int) - 1 := wrap64_in (by omega) (by omega)
    refine Evt.succ ?_
    simp only [abridgerref1_JUnits.l0, w3, List.append_nil]
    clear w3
    exact Evt.neg (by simp) (Evt.const _)
  | @cp r t l h1 h2 h3 h4 h5 ih =>
    intro a acc hl ha
    have hb := (enc_bytes h1).append (reads_bytes h5)
    have hd := dec_enc h1 t
    have hs := @enc_size r
    have hs2 := size_range r
    have hp := pr_len r
    have hpos := reads_pos h5
    have hbd : (a.length : Int) + size r ≤ 1000000000 := by
      simp only [List.length_append] at hl
      omega
    have ih' := ih (a ++ enc r) (acc ++ pr r) (by rw [List.append_assoc]; exact hl) (by simp only [List.length_append]; omega)
    have hne : ∀ x y, enc r = x :: y → x ≠ 92 := by
      intro x y he
      by_cases hlow : r < 128
      · rw [enc_low hlow] at he
        simp only [List.cons.injEq] at he
        omega
      · have := enc_high h1 (by omega) x (by rw [he]; simp)
        omega
    have el : (a.length : Int) + size r = ((a ++ enc r).length : Int) := by rw [← hs]; simp
    rw [List.append_assoc, List.append_assoc] at ih'
    rcases he : enc r with _ | ⟨c, y⟩
    · rw [he] at hs
      simp at hs
      omega
    rw [he] at ih' hb hd hl el
    simp only [List.cons_append] at ih' hb hd hl ⊢
    have hn := ref_next_at a c (y ++ t) hb (by omega)
    rw [hd] at hn
    have w : wrap64 ((a.length : Int) + size r) = (a.length : Int) + size r := wrap64_in (by clear el; omega) (by clear el; omega)
    refine l0_round hl (by simp only [List.length_append]; omega) (Evt.neg (hne c y he) (Evt.bind hn ?_))
    simp only [pair_eq h1, Option.bind_some, w]
    rw [el]
    clear w
    have hl' := hl
    simp only [List.length_append, List.length_cons] at hl'
    refine Evt.pos ?_ ih'
    omega
  | @u p q r s t l h1 h2 h3 h4 h5 ih =>
    intro a acc hl ha
    have hl' := hl
    simp only [List.length_append, List.length_cons] at hl'
    have ea : a ++ 92 :: 117 :: p :: q :: r :: s :: t = (a ++ [92, 117, p, q, r, s]) ++ t := by simp
    have el : (a.length : Int) + 6 = ((a ++ [92, 117, p, q, r, s]).length : Int) := by simp
    have ih' := ih (a ++ [92, 117, p, q, r, s]) (acc ++ [((hexv p * 16 + hexv q) * 16 + hexv r) * 16 + hexv s]) (by rw [← ea]; exact hl) (by simp only [List.length_append, List.length_cons, List.length_nil]; omega)
    rw [← ea, ← el, List.append_assoc] at ih'
    have hrd : rd (a ++ 92 :: 117 :: p :: q :: r :: s :: t) ((a.length : Int) + 1) = 117 := rd_append' a _ 1
    have r2 : rd (a ++ 92 :: 117 :: p :: q :: r :: s :: t) ((a.length : Int) + 2) = p := rd_append' a _ 2
    have r3 : rd (a ++ 92 :: 117 :: p :: q :: r :: s :: t) ((a.length : Int) + 2 + 1) = q := by rw [show (a.length : Int) + 2 + 1 = (a.length : Int) + ((3 : Nat) : Int) by omega]; exact rd_append' a _ 3
    have r4 : rd (a ++ 92 :: 117 :: p :: q :: r :: s :: t) ((a.length : Int) + 2 + 1 + 1) = r := by rw [show (a.length : Int) + 2 + 1 + 1 = (a.length : Int) + ((4 : Nat) : Int) by omega]; exact rd_append' a _ 4
    have r5 : rd (a ++ 92 :: 117 :: p :: q :: r :: s :: t) ((a.length : Int) + 2 + 1 + 1 + 1) = s := by rw [show (a.length : Int) + 2 + 1 + 1 + 1 = (a.length : Int) + ((5 : Nat) : Int) by omega]; exact rd_append' a _ 5
    have b1 := hexv_lt p
    have b2 := hexv_lt q
    have b3 := hexv_lt r
    have b4 := hexv_lt s
    have len : ((a ++ 92 :: 117 :: p :: q :: r :: s :: t).length : Int) = (a.length : Int) + 6 + (t.length : Int) := by simp only [List.length_append, List.length_cons]; omega
    refine l0_round hl (by simp) (Evt.pos rfl (Evt.pos (by omega) (Evt.pos (by rw [len]; omega) ?_)))
    rw [hrd]
    refine Evt.pos rfl ?_
    refine u_in (by omega) (by omega) (by omega) (by omega) (by rw [len]; omega) r2 h1 (by omega) (by omega) ?_
    rw [Int.zero_mul, Int.zero_add]
    refine u_in (by omega) (by omega) (by omega) (by omega) (by rw [len]; omega) r3 h2 (by omega) (by omega) ?_
    refine u_in (by omega) (by omega) (by omega) (by omega) (by rw [len]; omega) r4 h3 (by omega) (by omega) ?_
    refine u_in (by omega) (by omega) (by omega) (by omega) (by rw [len]; omega) r5 h4 (by omega) (by omega) ?_
    rw [show (a.length : Int) + 2 + 1 + 1 + 1 + 1 = (a.length : Int) + 6 by omega]
    exact u_end (by omega) (by omega) (by omega) ih'
  | @e c t l h1 h2 ih =>
    intro a acc hl ha
    have hl' := hl
    simp only [List.length_append, List.length_cons] at hl'
    have ea : a ++ 92 :: c :: t = (a ++ [92, c]) ++ t := by simp
    have el : (a.length : Int) + 2 = ((a ++ [92, c]).length : Int) := by simp
    have ih' := ih (a ++ [92, c]) (acc ++ [escv c]) (by rw [← ea]; exact hl) (by simp only [List.length_append, List.length_cons, List.length_nil]; omega)
    rw [← ea, ← el, List.append_assoc] at ih'
    have hrd : rd (a ++ 92 :: c :: t) ((a.length : Int) + 1) = c := rd_append' a _ 1
    have hr := esc_range h1
    have w : wrap64 c = c := wrap64_in (by omega) (by omega)
    have len : ((a ++ 92 :: c :: t).length : Int) = (a.length : Int) + 2 + (t.length : Int) := by simp only [List.length_append, List.length_cons]; omega
    refine l0_round hl (by simp) (Evt.pos rfl (Evt.pos (by omega) (Evt.pos (by rw [len]; omega) ?_)))
    rw [hrd, w]
    clear w hrd
    have fits : acc.length < 17592186044416 := by omega
    refine Evt.neg hr.2.2 ?_
    by_cases e1 : c = 98
    · have ev : escv c = 8 := by rw [e1]; rfl
      rw [ev] at ih' ⊢
      exact Evt.pos e1 (Evt.pos fits ih')
    refine Evt.neg e1 ?_
    by_cases e2 : c = 102
    · have ev : escv c = 12 := by rw [e2]; rfl
      rw [ev] at ih' ⊢
      exact Evt.pos e2 (Evt.pos fits ih')
    refine Evt.neg e2 ?_
    by_cases e3 : c = 110
    · have ev : escv c = 10 := by rw [e3]; rfl
      rw [ev] at ih' ⊢
      exact Evt.pos e3 (Evt.pos fits ih')
    refine Evt.neg e3 ?_
    by_cases e4 : c = 114
    · have ev : escv c = 13 := by rw [e4]; rfl
      rw [ev] at ih' ⊢
      exact Evt.pos e4 (Evt.pos fits ih')
    refine Evt.neg e4 ?_
    by_cases e5 : c = 116
    · have ev : escv c = 9 := by rw [e5]; rfl
      rw [ev] at ih' ⊢
      exact Evt.pos e5 (Evt.pos fits ih')
    refine Evt.neg e5 ?_
    have ev : escv c = c := by
      unfold escv
      rw [if_neg e1, if_neg e2, if_neg e3, if_neg e4, if_neg e5]
    rw [ev] at ih' ⊢
    exact Evt.pos fits ih'
/-- A text that stands for units is read. -/
theorem JUnits_reads {t l : List Int} (h : Reads t l) (hl : (t.length : Int) ≤ 100000000) : Evt (fun k => abridgerref1_JUnits.f k (34 :: t)) (l, true) := by
  have hpos := reads_pos h
  obtain ⟨v, h1, h2⟩ := jtext_l0 t.length t [34] (Nat.le_refl _) (reads_bytes h) (by simp; omega)
  have hv := h2.2 (reads_jt h)
  have hj : Evt (fun k => abridgerref1_jtext.f k (34 :: t) 0) v := by
      simp only [abridgerref1_jtext.f]
      rw [wrap64_in (n := 0 + 1) (by omega) (by omega)]
      exact h1
  obtain ⟨rs, g1, g2⟩ := reads_cps h
  have hval : Evt (fun k => abridgerref1_Valid.f k (34 :: t)) (((34 :: t).length : Int), true) := by
    have := ref_valid_ev (rs := 34 :: rs) (t := []) (by intro x hx; rcases List.mem_cons.1 hx with rfl | hx; exact (by decide); exact g1 x hx) rfl Bytes.nil (by rw [encAll_cons, g2]; simp [enc]; omega)
    rw [List.append_nil, encAll_cons, g2] at this
    exact this
  have h3 := units_l0 h [34] [] (by simp; omega) (by simp)
  simp only [abridgerref1_JUnits.f]
  refine Evt.neg (by simp only [List.length_cons]; omega) (Evt.pos (by simp only [List.length_cons]; omega) (Evt.pos rfl (Evt.bind hj ?_)))
  rw [hv]
  refine Evt.succ ?_
  simp only [abridgerref1_JUnits.j0]
  refine Evt.neg (by simp) (Evt.bind hval ?_)
  exact Evt.pos rfl h3
/-- What is no such text is none. -/
theorem JUnits_not {b : List Int} (hb : Bytes b) (hl : (b.length : Int) ≤ 100000000) (h : ¬ ∃ t l, b = 34 :: t ∧ Reads t l) : Evt (fun k => abridgerref1_JUnits.f k b) ([], false) := by
  have no : Evt (fun k => abridgerref1_JUnits.j0 k b true) ([], false) := by
    refine Evt.succ ?_
    simp only [abridgerref1_JUnits.j0]
    exact Evt.pos (by simp) (Evt.const _)
  simp only [abridgerref1_JUnits.f]
  by_cases c1 : (b.length : Int) < 2
  · exact Evt.pos c1 no
  refine Evt.neg c1 (Evt.pos (by omega) ?_)
  rcases b with _ | ⟨c, t⟩
  · simp at c1
  by_cases c2 : c = 34
  · subst c2
    obtain ⟨v, h1, h2⟩ := jtext_l0 t.length t [34] (Nat.le_refl _) hb.tail (by simp only [List.length_append, List.length_cons, List.length_nil] at hl ⊢; omega)
    have hj : Evt (fun k => abridgerref1_jtext.f k (34 :: t) 0) v := by
      simp only [abridgerref1_jtext.f]
      rw [wrap64_in (n := 0 + 1) (by omega) (by omega)]
      exact h1
    refine Evt.pos rfl (Evt.bind hj ?_)
    by_cases c3 : v = ((34 :: t).length : Int)
    · have jt := h2.1 c3
      rw [c3]
      refine Evt.succ ?_
      simp only [abridgerref1_JUnits.j0]
      refine Evt.neg (by simp) ?_
      obtain ⟨rs, u, e1, g1, g2⟩ := parts (34 :: t) hb
      have hval := ref_valid_ev g1 g2 (by have := hb; rw [e1] at this; exact this.right) (by rw [← e1]; omega)
      rw [← e1] at hval
      refine Evt.bind hval ?_
      have hu : u ≠ [] := by
        rintro rfl
        rw [List.append_nil] at e1
        obtain ⟨rs', _, g3, g4⟩ := cps_low g1 e1.symm (by omega)
        rw [← g4] at jt
        obtain ⟨l, hr⟩ := jt_reads _ rs' (Nat.le_refl _) g3 jt
        rw [g4] at hr
        exact h ⟨t, l, rfl, hr⟩
      simp only [decide_eq_false hu]
      exact Evt.neg (by decide) (Evt.const _)
    · have : (v != ((34 :: t).length : Int)) = true := by simp only [bne_iff_ne]; exact c3
      rw [this]
      exact no
  · exact Evt.neg c2 no
theorem SameInts_ev (l : List Int) (hl : (l.length : Int) ≤ 1000000000) : Evt (fun k => abridgerref1_SameInts.f k l l) true := by
  have key : ∀ (t a : List Int), ((a ++ t).length : Int) ≤ 1000000000 → Evt (fun k => abridgerref1_SameInts.l0 k (a ++ t) (a ++ t) (a.length : Int)) true := by
    intro t
    induction t with
    | nil =>
      intro a hl
      refine Evt.succ ?_
      simp only [abridgerref1_SameInts.l0]
      exact Evt.neg (by simp) (Evt.const _)
    | cons c t ih =>
      intro a hl
      have hl' := hl
      simp only [List.length_append, List.length_cons] at hl'
      have w1 : wrap64 ((a.length : Int) + 1) = (a.length : Int) + 1 := wrap64_in (by omega) (by omega)
      have ih' := ih (a ++ [c]) (by rw [List.append_assoc]; exact hl)
      rw [List.append_assoc, show ((a ++ [c]).length : Int) = (a.length : Int) + 1 by simp] at ih'
      refine Evt.succ ?_
      simp only [abridgerref1_SameInts.l0, rd_append, w1]
      clear w1
      have e1 : (a.length : Int) < ((a ++ c :: t).length : Int) := by simp only [List.length_append, List.length_cons]; omega
      exact Evt.pos e1 (Evt.pos (by omega) (Evt.pos e1 (Evt.pos (by simp) ih')))
  simp only [abridgerref1_SameInts.f]
  refine Evt.pos (by simp) ?_
  exact key l [] hl
end Go.Proofs.Ytcioifijkonplaa.JstrEq

namespace Go.Proofs.Ytcioifijkonplaa.Pure
open Go.RowKit Go.Proofs.YtcioifijkonplaaW.PrintWords Go.Proofs.Ytcioifijkonplaa.Base Go.Proofs.Ytcioifijkonplaa.Utf Go.Proofs.Ytcioifijkonplaa.UtfEq Go.Proofs.Ytcioifijkonplaa.RefEq Go.Proofs.Ytcioifijkonplaa.TextEq Go.Proofs.Ytcioifijkonplaa.Jstr Go.Proofs.Ytcioifijkonplaa.JstrEq Go.Proofs.Ytcioifijkonplaa.Q

theorem JstringLeast (b : List Int) (hw : ∀ x ∈ b, (Lit.int .u8 x).wf = true) (hl : b.length ≤ 1048576) : ∃ k, abridgerlaw8_JstringLeast.f k b = some true := by
  have hb := Bytes.of_wf hw
  apply Evt.ex
  simp only [abridgerlaw8_JstringLeast.f]
  refine Evt.bind alive_ev ?_
  by_cases h : ∃ t l, b = 34 :: t ∧ Reads t l
  · obtain ⟨t, l, rfl, hr⟩ := h
    simp only [List.length_cons] at hl
    refine Evt.bind (JUnits_reads hr (by omega)) (Evt.pos rfl ?_)
    by_cases h1 : ((34 :: t : List Int).length : Int) > 300
    · exact Evt.pos h1 (Evt.const _)
    have hs := Spell_ev l (by have := reads_units hr; omega)
    rw [if_pos (reads_right hr)] at hs
    have hz : (strOfNums (spelled l)).size = (body l).length + 2 := by
      rw [str_size]
      simp [spelled]
    have hle := reads_least hr
    refine Evt.neg h1 (Evt.pos rfl (Evt.bind hs ?_))
    rw [hz]
    refine Evt.pos (by omega) (Evt.of (congrArg some (decide_eq_true ?_)))
    simp only [List.length_cons]
    omega
  · refine Evt.bind (JUnits_not hb (by omega) h) (Evt.pos rfl ?_)
    by_cases h1 : (b.length : Int) > 300
    · exact Evt.pos h1 (Evt.const _)
    · exact Evt.neg h1 (Evt.neg (by decide) (Evt.const _))
end Go.Proofs.Ytcioifijkonplaa.Pure
