/- Reading and writing UTF-8, on the small machine. -/
import Derived.Test.YthokfhifahlohaaDoorTi
import Derived.Test.YthokfhifahlohaaDoorEngHeap
import Derived.Test.YthokfhifahlohaaDoorUtf
import Derived.Laws.BitsLemmas
namespace Go.Proofs.YthokfhifahlohaaDoor.Eng
open Go Go.Proofs.YthokfhifahlohaaDoor.Base
set_option maxRecDepth 100000
set_option linter.unusedSimpArgs false
/-- Numbers as data. -/
def iD (k : IntKind) (n : Int) : List Dat := [.v (.int k n)]
def bytesD (l : List Int) : Dat := .sl 1 (l.map (iD .u8))
def intsD (l : List Int) : Dat := .sl 1 (l.map (iD .i64))
def numOf : List Dat → Int
  | [.v (.int _ n)] => n
  | _ => 0
theorem getD_iD (k : IntKind) (l : List Int) (i : Nat) (n0 : Int) : (l.map (iD k)).getD i [.v (.int k n0)] = iD k (l.getD i n0) := by
  rw [show ([.v (.int k n0)] : List Dat) = iD k n0 from rfl]
  simp only [List.getD_eq_getElem?_getD, List.getElem?_map]
  cases l[i]? <;> rfl
theorem num_iD (k : IntKind) (l : List Int) : (l.map (iD k)).map numOf = l := by
  induction l with
  | nil => rfl
  | cons a l ih => simp only [List.map_cons, ih]; rfl
def lead (c : Int) : Int × Int := if c < 128 then (1, c) else if 194 ≤ c ∧ c < 224 then (2, c - 192) else if 224 ≤ c ∧ c < 240 then (3, c - 224) else if 240 ≤ c ∧ c < 245 then (4, c - 240) else (0, 0)
def F_lead : List AV → Option (Prop × AV)
  | [.d (.v (.int .u8 c))] => some (0 ≤ c ∧ c < 256, .tup [vInt .i64 (lead c).1, vInt .i64 (lead c).2])
  | _ => none
theorem w64 {n : Int} (h0 : -9223372036854775808 ≤ n) (h1 : n ≤ 9223372036854775807) : IntKind.i64.wrap n = n := by rw [IntKind.wrap_i64]; omega
def F_right : List AV → Option (Prop × AV)
  | [.d (.v (.int .i64 r))] => some (True, vBool (decide (Utf.isCp r)))
  | _ => none
def F_size : List AV → Option (Prop × AV)
  | [.d (.v (.int .i64 r))] => some (True, vInt .i64 (Utf.size r))
  | _ => none
theorem wraps_i64 (n : Int) (h0 : 0 ≤ n) (h1 : n < 2 ^ 31) : IntKind.i64.wrap n = n := by rw [IntKind.wrap_i64]; omega
theorem i64_and63 {x : Int} (h0 : 0 ≤ x) (h1 : x < 2147483648) : bits .and .i64 x 63 = x % 64 :=
  bits_mask .i64 31 (by decide) wraps_i64 6 (by decide) x h0 h1
theorem i64_or128 {y : Int} (h0 : 0 ≤ y) (h1 : y < 64) : bits .or .i64 128 y = 128 + y :=
  bits_join .i64 31 (by decide) wraps_i64 6 128 y (by decide) (by decide) (by decide) h0 h1 (by omega)
theorem i64_or192 {y : Int} (h0 : 0 ≤ y) (h1 : y < 32) : bits .or .i64 192 y = 192 + y :=
  bits_join .i64 31 (by decide) wraps_i64 6 192 y (by decide) (by decide) (by decide) h0 (by omega) (by omega)
theorem i64_or224 {y : Int} (h0 : 0 ≤ y) (h1 : y < 16) : bits .or .i64 224 y = 224 + y :=
  bits_join .i64 31 (by decide) wraps_i64 5 224 y (by decide) (by decide) (by decide) h0 (by omega) (by omega)
theorem i64_or240 {y : Int} (h0 : 0 ≤ y) (h1 : y < 16) : bits .or .i64 240 y = 240 + y :=
  bits_join .i64 31 (by decide) wraps_i64 4 240 y (by decide) (by decide) (by decide) h0 (by omega) (by omega)
theorem i64_or6 {x y : Int} (hx : 0 ≤ x) (hx1 : x < 33554432) (h0 : 0 ≤ y) (h1 : y < 64) : bits .or .i64 (x * 64) y = x * 64 + y :=
  bits_join .i64 31 (by decide) wraps_i64 6 (x * 64) y (by omega) (by omega) (by omega) h0 h1 (by omega)
theorem andNot_cont {c : Int} (h0 : 0 ≤ c) (h1 : c < 256) : bits .andNot .u8 c 63 = 128 ↔ Utf.cont c := by
  have key : ∀ n : Fin 256, (bits .andNot .u8 ((n.val : Nat) : Int) 63 = 128) ↔ Utf.cont ((n.val : Nat) : Int) := by decide +kernel
  obtain ⟨n, rfl⟩ := Int.eq_ofNat_of_zero_le h0
  exact key ⟨n, by omega⟩
theorem and_cont {c : Int} (h0 : 0 ≤ c) (h1 : c < 256) : bits .and .u8 c 192 = 128 ↔ Utf.cont c := by
  have key : ∀ n : Fin 256, (bits .and .u8 ((n.val : Nat) : Int) 192 = 128) ↔ Utf.cont ((n.val : Nat) : Int) := by decide +kernel
  obtain ⟨n, rfl⟩ := Int.eq_ofNat_of_zero_le h0
  exact key ⟨n, by omega⟩

section
open Utf
/-- The bytes that the code writes are those of the model. -/
theorem bytes2 {r : Int} (h : isCp r) (h1 : 128 ≤ r) (h2 : r < 2048) : [(bits .or .i64 192 (r / 64)) % 256, (bits .or .i64 128 (bits .and .i64 r 63)) % 256] = enc r := by
  unfold isCp at h
  rw [i64_and63 (by omega) (by omega), i64_or192 (by omega) (by omega), i64_or128 (by omega) (by omega)]
  unfold enc
  rw [if_neg (by omega), if_pos (by omega), Int.emod_eq_of_lt (by omega) (by omega), Int.emod_eq_of_lt (by omega) (by omega)]
theorem bytes3 {r : Int} (h : isCp r) (h1 : 2048 ≤ r) (h2 : r < 65536) : [(bits .or .i64 224 (r / 4096)) % 256, (bits .or .i64 128 (bits .and .i64 (r / 64) 63)) % 256, (bits .or .i64 128 (bits .and .i64 r 63)) % 256] = enc r := by
  unfold isCp at h
  rw [i64_and63 (x := r) (by omega) (by omega), i64_and63 (x := r / 64) (by omega) (by omega), i64_or224 (by omega) (by omega), i64_or128 (y := r / 64 % 64) (by omega) (by omega), i64_or128 (y := r % 64) (by omega) (by omega)]
  unfold enc
  rw [if_neg (by omega), if_neg (by omega), if_pos (by omega), Int.emod_eq_of_lt (a := 224 + r / 4096) (by omega) (by omega), Int.emod_eq_of_lt (a := 128 + r / 64 % 64) (by omega) (by omega), Int.emod_eq_of_lt (a := 128 + r % 64) (by omega) (by omega)]
theorem bytes4 {r : Int} (h : isCp r) (h1 : 65536 ≤ r) : [(bits .or .i64 240 (r / 262144)) % 256, (bits .or .i64 128 (bits .and .i64 (r / 4096) 63)) % 256, (bits .or .i64 128 (bits .and .i64 (r / 64) 63)) % 256, (bits .or .i64 128 (bits .and .i64 r 63)) % 256] = enc r := by
  unfold isCp at h
  rw [i64_and63 (x := r) (by omega) (by omega), i64_and63 (x := r / 64) (by omega) (by omega), i64_and63 (x := r / 4096) (by omega) (by omega), i64_or240 (by omega) (by omega), i64_or128 (y := r / 4096 % 64) (by omega) (by omega), i64_or128 (y := r / 64 % 64) (by omega) (by omega), i64_or128 (y := r % 64) (by omega) (by omega)]
  unfold enc
  rw [if_neg (by omega), if_neg (by omega), if_neg (by omega), Int.emod_eq_of_lt (a := 240 + r / 262144) (by omega) (by omega), Int.emod_eq_of_lt (a := 128 + r / 4096 % 64) (by omega) (by omega), Int.emod_eq_of_lt (a := 128 + r / 64 % 64) (by omega) (by omega), Int.emod_eq_of_lt (a := 128 + r % 64) (by omega) (by omega)]
theorem bytes1 {r : Int} (h : isCp r) (h1 : r < 128) : [r % 256] = enc r := by
  unfold isCp at h
  unfold enc
  rw [if_pos h1, Int.emod_eq_of_lt (by omega) (by omega)]
theorem enc_len {r : Int} : (enc r).length ≤ 4 := by
  have := @enc_size r
  have := size_range r
  omega

end
/-- What is made of a first byte's bits and the bytes behind. -/
def run (n : Int) : Int → List Int → Int × Int × Bool
  | x, [] => Utf.fin x n
  | x, d :: t => if Utf.cont d then run n (x * 64 + (d - 128)) t else Utf.bad
theorem dec_lead {c : Int} {t : List Int} (hb : Bytes (c :: t)) : Utf.dec (c :: t) = if (lead c).1 = 0 ∨ (lead c).1 > (t.length : Int) + 1 then Utf.bad else run (lead c).1 (lead c).2 (t.take ((lead c).1.toNat - 1)) := by
  have hc := hb.head
  simp only [Utf.dec]
  unfold lead
  by_cases a1 : c < 128
  · rw [if_pos a1, if_pos a1, if_neg (by simp only []; omega)]
    simp only [show ((1 : Int).toNat - 1) = 0 from rfl, List.take_zero, run, Utf.fin]
    rw [if_pos ⟨⟨by omega, by omega, by omega⟩, by unfold Utf.size; rw [if_pos a1]⟩]
  · rw [if_neg a1, if_neg a1]
    by_cases a2 : 194 ≤ c ∧ c < 224
    · rw [if_pos a2, if_pos a2]
      match t with
      | [] => simp [Utf.bad]
      | d :: t => simp [run]; intro h; omega
    · rw [if_neg a2, if_neg a2]
      by_cases a3 : 224 ≤ c ∧ c < 240
      · rw [if_pos a3, if_pos a3]
        match t with
        | [] => simp [Utf.bad]
        | [d] => simp [Utf.bad]
        | d :: e :: t =>
          simp only [List.length_cons, show ((3 : Int).toNat - 1) = 2 from rfl, List.take_succ_cons, List.take_zero, run]
          rw [if_neg (by omega : ¬ ((3 : Int) = 0 ∨ (3 : Int) > ((t.length + 1 + 1 : Nat) : Int) + 1))]
          by_cases d1 : Utf.cont d
          · by_cases d2 : Utf.cont e
            · rw [if_pos ⟨d1, d2⟩, if_pos d1, if_pos d2]; congr 1; omega
            · rw [if_neg (fun h => d2 h.2), if_pos d1, if_neg d2]
          · rw [if_neg (fun h => d1 h.1), if_neg d1]
      · rw [if_neg a3, if_neg a3]
        by_cases a4 : 240 ≤ c ∧ c < 245
        · rw [if_pos a4, if_pos a4]
          match t with
          | [] => simp [Utf.bad]
          | [d] => simp [Utf.bad]
          | [d, e] => simp [Utf.bad]
          | d :: e :: f :: t =>
            simp only [List.length_cons, show ((4 : Int).toNat - 1) = 3 from rfl, List.take_succ_cons, List.take_zero, run]
            rw [if_neg (by omega : ¬ ((4 : Int) = 0 ∨ (4 : Int) > ((t.length + 1 + 1 + 1 : Nat) : Int) + 1))]
            by_cases d1 : Utf.cont d
            · by_cases d2 : Utf.cont e
              · by_cases d3 : Utf.cont f
                · rw [if_pos ⟨d1, d2, d3⟩, if_pos d1, if_pos d2, if_pos d3]; congr 1; omega
                · rw [if_neg (fun h => d3 h.2.2), if_pos d1, if_pos d2, if_neg d3]
              · rw [if_neg (fun h => d2 h.2.1), if_pos d1, if_neg d2]
            · rw [if_neg (fun h => d1 h.1), if_neg d1]
        · rw [if_neg a4, if_neg a4]
          simp
theorem lead_range {c : Int} (h0 : 0 ≤ c) (h1 : c < 256) : 0 ≤ (lead c).1 ∧ (lead c).1 ≤ 4 ∧ 0 ≤ (lead c).2 ∧ (lead c).2 < 128 := by
  unfold lead
  (repeat' split) <;> simp only [] <;> omega
def F_Next : List AV → Option (Prop × AV)
  | [.d (.sl 1 xs), .d (.v (.int .i64 i))] => some (xs = (xs.map numOf).map (iD .u8) ∧ Bytes (xs.map numOf) ∧ xs.length ≤ 140737488355328,
      .tup [vInt .i64 (Utf.nx (xs.map numOf) i).1, vInt .i64 (Utf.nx (xs.map numOf) i).2.1, vBool (Utf.nx (xs.map numOf) i).2.2])
  | _ => none
theorem byteOf_all (l : List Int) : ∀ r : List Dat, r ∈ l.map (iD .u8) → r = [Dat.v (Value.int .u8 (byteOf r))] := by
  intro r h
  obtain ⟨c, -, rfl⟩ := List.mem_map.mp h
  rfl
theorem byteOf_map (l : List Int) : (l.map (iD .u8)).map byteOf = l := by
  induction l with
  | nil => rfl
  | cons a l ih => simp only [List.map_cons, ih]; rfl
def puts (rs : List Int) : List Int := rs.flatMap Utf.put
theorem puts_len (l : List Int) : (puts l).length ≤ 4 * l.length := by
  induction l with
  | nil => exact Nat.le_refl 0
  | cons a l ih =>
    have := (Utf.put_length a).2
    simp only [puts, List.flatMap_cons, List.length_append, List.length_cons] at ih ⊢
    omega
theorem puts_snoc {l : List Int} {j : Nat} {c : Int} (h : l[j]? = some c) : puts (l.take (j + 1)) = puts (l.take j) ++ Utf.put c := by
  rw [List.take_add_one, h]
  simp [puts]
theorem getD_at {l : List Int} {j : Nat} {c : Int} (h : l[j]? = some c) : l.getD (j : Int).toNat 0 = c := by rw [Int.toNat_natCast, List.getD_eq_getElem?_getD, h]; rfl
end Go.Proofs.YthokfhifahlohaaDoor.Eng
