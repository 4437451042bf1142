/- Plain lemmas on numbers of rounds, lists of bytes and wrapped sums: no program stands here. -/
import Derived.Laws.BitsLemmas
import Derived.Lib.Bytes
import Derived.Test.YtlhhibhcoefolaaWWords
namespace Go.Proofs.Ytlhhibhcoefolaa.Base
open Go.RowKit Go.Proofs.YtlhhibhcoefolaaW.PrintWords

/-- With rounds enough the answer is r. -/
def Evt {α : Type} (g : Nat → Option α) (r : α) : Prop := ∃ K, ∀ k, K ≤ k → g k = some r
theorem Evt.ex {α : Type} {g : Nat → Option α} {r : α} (h : Evt g r) : ∃ k, g k = some r := by
  obtain ⟨K, h⟩ := h
  exact ⟨K, h K (Nat.le_refl _)⟩
theorem Evt.const {α : Type} (r : α) : Evt (fun _ => some r) r := ⟨0, fun _ _ => rfl⟩
theorem Evt.of {α : Type} {x : Option α} {r : α} (h : x = some r) : Evt (fun _ => x) r := ⟨0, fun _ _ => h⟩
theorem Evt.bind {α β : Type} {g : Nat → Option α} {f : Nat → α → Option β} {a : α} {r : β} (h : Evt g a) (k : Evt (fun n => f n a) r) : Evt (fun n => (g n).bind (f n)) r := by
  obtain ⟨K, h⟩ := h
  obtain ⟨L, k⟩ := k
  refine ⟨max K L, fun n hn => ?_⟩
  have h1 := h n (by omega)
  have h2 := k n (by omega)
  simp only [h1, Option.bind_some, h2]
theorem Evt.succ {α : Type} {g : Nat → Option α} {r : α} (h : Evt (fun k => g (k + 1)) r) : Evt g r := by
  obtain ⟨K, h⟩ := h
  refine ⟨K + 1, fun k hk => ?_⟩
  obtain ⟨m, rfl⟩ : ∃ m, k = m + 1 := ⟨k - 1, by omega⟩
  exact h m (by omega)
theorem Evt.congr {α : Type} {g g' : Nat → Option α} {r : α} (h : Evt g' r) (e : ∀ k, g k = g' k) : Evt g r := by
  obtain ⟨K, h⟩ := h
  exact ⟨K, fun k hk => (e k).trans (h k hk)⟩
theorem Evt.pos {α : Type} {c : Prop} [Decidable c] {g f : Nat → Option α} {r : α} (hc : c) (h : Evt g r) : Evt (fun k => if c then g k else f k) r := by
  simp only [if_pos hc]
  exact h
theorem Evt.neg {α : Type} {c : Prop} [Decidable c] {g f : Nat → Option α} {r : α} (hc : ¬ c) (h : Evt f r) : Evt (fun k => if c then g k else f k) r := by
  simp only [if_neg hc]
  exact h
theorem Evt.unique {α : Type} {g : Nat → Option α} {r s : α} (h : Evt g r) (k : Evt g s) : r = s := by
  obtain ⟨K, h⟩ := h
  obtain ⟨L, k⟩ := k
  have h1 := h (max K L) (by omega)
  have h2 := k (max K L) (by omega)
  rw [h1] at h2
  exact Option.some.inj h2

theorem wrap64_in {n : Int} (h0 : -9223372036854775808 ≤ n) (h1 : n ≤ 9223372036854775807) : wrap64 n = n := by
  unfold wrap64
  omega

/-- Every element is a byte. -/
def Bytes (l : List Int) : Prop := ∀ x ∈ l, 0 ≤ x ∧ x < 256
theorem Bytes.nil : Bytes [] := fun _ h => by simp at h
theorem Bytes.append {a b : List Int} (ha : Bytes a) (hb : Bytes b) : Bytes (a ++ b) := fun x hx => by
  rcases List.mem_append.1 hx with h | h
  · exact ha x h
  · exact hb x h
theorem Bytes.cons {a : Int} {b : List Int} (ha : 0 ≤ a ∧ a < 256) (hb : Bytes b) : Bytes (a :: b) := fun x hx => by
  rcases List.mem_cons.1 hx with h | h
  · subst h; exact ha
  · exact hb x h
theorem Bytes.head {a : Int} {b : List Int} (h : Bytes (a :: b)) : 0 ≤ a ∧ a < 256 := h a (by simp)
theorem Bytes.tail {a : Int} {b : List Int} (h : Bytes (a :: b)) : Bytes b := fun x hx => h x (by simp [hx])
theorem Bytes.left {a b : List Int} (h : Bytes (a ++ b)) : Bytes a := fun x hx => h x (by simp [hx])
theorem Bytes.right {a b : List Int} (h : Bytes (a ++ b)) : Bytes b := fun x hx => h x (by simp [hx])
theorem Bytes.of_wf {l : List Int} (h : ∀ x ∈ l, (Lit.int .u8 x).wf = true) : Bytes l := fun x hx => by
  have := h x hx
  simp [Lit.wf, IntKind.min, IntKind.max, IntKind.bits, IntKind.signed] at this
  omega
theorem Bytes.drop {l : List Int} (h : Bytes l) (n : Nat) : Bytes (l.drop n) := fun x hx => h x (List.mem_of_mem_drop hx)
theorem Bytes.take {l : List Int} (h : Bytes l) (n : Nat) : Bytes (l.take n) := fun x hx => h x (List.mem_of_mem_take hx)
theorem i64_of_wf {x : Int} (h : (Lit.int .i64 x).wf = true) : -9223372036854775808 ≤ x ∧ x ≤ 9223372036854775807 := by
  simp [Lit.wf, IntKind.min, IntKind.max, IntKind.bits, IntKind.signed] at h
  omega

theorem rd_append (a : List Int) (c : Int) (t : List Int) : rd (a ++ c :: t) (a.length : Int) = c := by
  simp [rd]
theorem rd_end (a : List Int) : rd a (a.length : Int) = 0 := by
  simp [rd]
theorem rd_append' (a t : List Int) (j : Nat) : rd (a ++ t) ((a.length : Int) + (j : Int)) = rd t (j : Int) := by
  have : ((a.length : Int) + (j : Int)).toNat = a.length + j := by omega
  simp only [rd, this, Int.toNat_natCast]
  simp [List.getD_eq_getElem?_getD, List.getElem?_append_right]
theorem split_at {l : List Int} {i : Int} (h0 : 0 ≤ i) (h1 : i < (l.length : Int)) : ∃ a c t, l = a ++ c :: t ∧ i = (a.length : Int) := by
  obtain ⟨n, rfl⟩ := Int.eq_ofNat_of_zero_le h0
  have h2 : n < l.length := by omega
  refine ⟨l.take n, l[n], l.drop (n + 1), ?_, ?_⟩
  · rw [← List.drop_eq_getElem_cons h2, List.take_append_drop]
  · simp; omega

theorem u8_nat {x : Int} (h0 : 0 ≤ x) (h1 : x < 256) : ((UInt8.ofNat x.toNat).toNat : Int) = x := by
  rw [UInt8.toNat_ofNat', Nat.mod_eq_of_lt (by omega)]
  omega
theorem str_toList (xs : List Int) : (strOfNums xs).toList = Lib.bytesOf xs := Lib.strOfNums_toList xs
theorem str_size (xs : List Int) : (strOfNums xs).size = xs.length := by
  simp [strOfNums, ByteArray.size]
theorem bytes_of_str {xs : List Int} (h : Bytes xs) : Go.Proofs.YtlhhibhcoefolaaW.PrintWords.bytesOf (strOfNums xs) = xs := by
  unfold Go.Proofs.YtlhhibhcoefolaaW.PrintWords.bytesOf strOfNums
  simp only [List.map_map]
  have : ∀ x ∈ xs, ((fun b : UInt8 => (b.toNat : Int)) ∘ fun n : Int => UInt8.ofNat n.toNat) x = x := fun x hx => u8_nat (h x hx).1 (h x hx).2
  rw [List.map_congr_left this]
  simp
theorem u8s_inj {a b : List Int} (ha : Bytes a) (hb : Bytes b) (h : Lib.bytesOf a = Lib.bytesOf b) : a = b := by
  have h2 := congrArg (List.map fun b : UInt8 => (b.toNat : Int)) h
  unfold Lib.bytesOf at h2
  simp only [List.map_map] at h2
  have key : ∀ l : List Int, Bytes l → List.map ((fun b : UInt8 => (b.toNat : Int)) ∘ fun n : Int => UInt8.ofNat n.toNat) l = l := by
    intro l hl
    have : ∀ x ∈ l, ((fun b : UInt8 => (b.toNat : Int)) ∘ fun n : Int => UInt8.ofNat n.toNat) x = x := fun x hx => u8_nat (hl x hx).1 (hl x hx).2
    rw [List.map_congr_left this]
    simp
  rw [key a ha, key b hb] at h2
  exact h2
/-- One text of bytes before another one. -/
def lexLt : List Int → List Int → Bool
  | _, [] => false
  | [], _ :: _ => true
  | a :: x, b :: y => decide (a < b) || (decide (a = b) && lexLt x y)
theorem bytesLess_u8s {a b : List Int} (ha : Bytes a) (hb : Bytes b) : Op.bytesLess (Lib.bytesOf a) (Lib.bytesOf b) = lexLt a b := by
  induction a generalizing b with
  | nil => cases b <;> rfl
  | cons x a ih =>
    cases b with
    | nil => rfl
    | cons y b =>
      have hx := ha.head
      have hy := hb.head
      have h1 := u8_nat hx.1 hx.2
      have h2 := u8_nat hy.1 hy.2
      show (decide (UInt8.ofNat x.toNat < UInt8.ofNat y.toNat) || (UInt8.ofNat x.toNat == UInt8.ofNat y.toNat && Op.bytesLess (Lib.bytesOf a) (Lib.bytesOf b))) = _
      rw [ih ha.tail hb.tail]
      have e1 : decide (UInt8.ofNat x.toNat < UInt8.ofNat y.toNat) = decide (x < y) := by
        rw [decide_eq_decide, UInt8.lt_iff_toNat_lt]
        omega
      have e2 : (UInt8.ofNat x.toNat == UInt8.ofNat y.toNat) = decide (x = y) := by
        rw [Bool.eq_iff_iff, beq_iff_eq, decide_eq_true_iff]
        constructor
        · intro h
          rw [h] at h1
          omega
        · rintro rfl
          rfl
      rw [e1, e2]
      rfl
theorem str_extract (xs : List Int) (n : Nat) : ((strOfNums xs).extract 0 n).toList = Lib.bytesOf (xs.take n) := by
  rw [Lib.toList_data, Lib.extract_data, Lib.bytesOf_take]
  rfl

/-- A mask leaves a number from 0 to the mask. -/
theorem and_range (x : Int) (m : Nat) (hm : m < 4611686018427387904) : 0 ≤ bits .and .i64 x (m : Int) ∧ bits .and .i64 x (m : Int) ≤ (m : Int) := by
  have h1 : (BitVec.ofInt IntKind.i64.bits x &&& BitVec.ofInt IntKind.i64.bits ((m : Nat) : Int)).toNat ≤ m := by
    rw [BitVec.toNat_and, BitVec.ofInt_natCast, BitVec.toNat_ofNat]
    refine Nat.le_trans Nat.and_le_right ?_
    exact Nat.mod_le _ _
  have h2 : bits .and .i64 x (m : Int) = IntKind.i64.wrap ((BitVec.ofInt IntKind.i64.bits x &&& BitVec.ofInt IntKind.i64.bits ((m : Nat) : Int)).toNat : Int) := rfl
  rw [h2, IntKind.wrap_i64]
  generalize (BitVec.ofInt IntKind.i64.bits x &&& BitVec.ofInt IntKind.i64.bits ((m : Nat) : Int)).toNat = q at h1
  omega

end Go.Proofs.Ytlhhibhcoefolaa.Base
