/- Lemmas of this session's own for printed texts: a string turned to bytes, constant or not: a row that is only read. -/
import Derived.Test.YtlhhibhcoefolaaWMore
import Derived.Lib.SlBytesConst
namespace Go.Proofs.YtlhhibhcoefolaaW.PrintWords.Kd
open Go.RowKit
section
variable {P : Program} {ops : Array Oper} {rest : List Oper} {o : Oper} {a : Act} {Q : Exit → Act → World → Prop} {W : World}
/-- '[]byte(s)' of a string that is no constant. -/
theorem C_conv (hgd : o.guard = none) {N : Tmp} (_hd : o.dst = some N) (src dst e : TypeId) (x : Operand) (ho : o.op = .convert src dst x) {u : TypeDesc} (hs : P.underlying src = some u) (hdt : P.underlying dst = some (.slice e)) (he : P.underlying e = some (.int .u8))
    (s : ByteArray) (hx : a.eval x = .string s) (hsz : s.size ≤ 9223372036854775807) (y : List Int) (hy : y = bytesOf s)
    (h : ∀ (A : Option Addr) c w1, Kd.C (Kd.int .u8) w1 A y.length y → y.length ≤ c → Below W.heap.size W w1 → wpList P ops Q rest (a.put o.dst (.slice A y.length c)) w1) : wpList P ops Q (o :: rest) a W := by
  have hl : y.length = s.size := by rw [hy, bytesOf_length]
  refine event_run hgd (w1 := Lib.bytesWorld W e s) (v := .slice (some ⟨W.heap.size, 0, none⟩) s.size (grownCap W s.size 0 e)) ?_ ?_
  · simp [execOp, ho, hx, print_bytes src dst e hs hdt he s W]
  · rw [← hl]
    refine h (some ⟨W.heap.size, 0, none⟩) (grownCap W y.length 0 e) (Lib.bytesWorld W e s) ?_ (grownCap_ge W _ 0 e) (bytes_below (Below.refl _ _) (Nat.le_refl _) e s)
    have hr := bytes_reads W e s hsz
    rw [← hy, ← hl] at hr
    exact C_of_reads (d := (0 : Int)) (h1 := fun _ => rfl) hr
/-- '[]byte("..")' of a constant: a literal's row, and behind it the conversion to its own type. -/
theorem C_clit {o2 : Oper} {rest2 : List Oper} (hgd : o.guard = none) {N N2 : Tmp} (_hd : o.dst = some N) (t e : TypeId) (inner : List Value) (y : List Int)
    (hrun : (execOp a.eval o).run P W = .ok (.value (.slice (some ⟨W.heap.size, 0, none⟩) y.length y.length)) (W.alloc (.cells inner.toArray e)))
    (hin : inner = y.map fun n => Value.int .u8 n) (hrest : rest = o2 :: rest2) (_hd2 : o2.dst = some N2) (ho2 : o2.op = .convert t t (.tmp N))
    (hw2 : ∀ v, Region.wanted o2 (yielded ops (a.put o.dst v).tmps) = true) (hev : ∀ v, (a.put o.dst v).eval (.tmp N) = v)
    (ht : P.underlying t = some (.slice e)) (he : P.underlying e = some (.int .u8)) (hm : y.length ≤ 9223372036854775807)
    (h : ∀ (A : Option Addr) c w1, Kd.C (Kd.int .u8) w1 A y.length y → y.length ≤ c → Below W.heap.size W w1 → wpList P ops Q rest2 ((a.put o.dst (.slice A y.length c)).put o2.dst (.slice A y.length c)) w1) : wpList P ops Q (o :: rest) a W := by
  subst hrest
  refine event_run hgd hrun ?_
  have h1 : Region.wanted { o2 with guard := none } (yielded ops (a.put o.dst (.slice (some ⟨W.heap.size, 0, none⟩) y.length y.length)).tmps) = true := rfl
  have key : wpList P ops Q ({ o2 with guard := none } :: rest2) (a.put o.dst (.slice (some ⟨W.heap.size, 0, none⟩) y.length y.length)) (W.alloc (.cells inner.toArray e)) := by
    refine event_run (o := { o2 with guard := none }) rfl (w1 := W.alloc (.cells inner.toArray e (inner.toArray.size, inner.toArray.size + 1))) (v := .slice (some ⟨W.heap.size, 0, none⟩) y.length y.length) ?_ ?_
    · have hr := Lib.run_convert_bytes_const (P := P) W t e inner.toArray y.length y.length ht he
      simp [execOp, ho2, hev, hr]
    · refine h (some ⟨W.heap.size, 0, none⟩) y.length _ ?_ (Nat.le_refl _) (below_alloc (Below.refl _ _) _)
      refine C_of_reads (enc := Value.int .u8) (d := (0 : Int)) (h1 := fun _ => rfl) ⟨rfl, hm, fun _ => ⟨_, rfl, fun j hj => ?_⟩⟩
      rw [add_plain]
      subst hin
      have : (W.alloc (.cells (y.map fun n => Value.int .u8 n).toArray e ((y.map fun n => Value.int .u8 n).toArray.size, (y.map fun n => Value.int .u8 n).toArray.size + 1))).heap[W.heap.size]? = some (.cells (y.map fun n => Value.int .u8 n).toArray e ((y.map fun n => Value.int .u8 n).toArray.size, (y.map fun n => Value.int .u8 n).toArray.size + 1)) := by
        show (W.heap.push _)[W.heap.size]? = _
        simp
      rw [cell_of_row _ _ _ _ _ _ this]
      simp [List.getD_eq_getElem?_getD, hj]
  unfold wpList at key ⊢
  rw [if_pos h1] at key
  rw [if_pos (hw2 _)]
  exact key
end
end Go.Proofs.YtlhhibhcoefolaaW.PrintWords.Kd
