/- Texts and their bytes. -/
import Derived.Test.YtlhhibhcoefolaaSUtf
namespace Go.Proofs.Ytlhhibhcoefolaa.Eng
open Go Go.Proofs.Ytlhhibhcoefolaa.Base
set_option maxRecDepth 100000
set_option linter.unusedSimpArgs false
/-- A text's bytes. -/
def sB (s : ByteArray) : List Int := s.data.toList.map fun b => (b.toNat : Int)
theorem sB_rows (s : ByteArray) : s.data.toList.map byteRow = (sB s).map (iD .u8) := by
  rw [sB, List.map_map]; rfl
theorem sB_bytes (s : ByteArray) : Bytes (sB s) := fun x hx => by
  obtain ⟨b, -, rfl⟩ := List.mem_map.mp hx
  have := b.toNat_lt
  omega
theorem sB_len (s : ByteArray) : (sB s).length = s.size := by rw [sB, List.length_map, Array.length_toList]; rfl
theorem sB_str {l : List Int} (h : Bytes l) : sB (strOfNums l) = l := by
  unfold sB strOfNums
  simp only [List.map_map]
  conv => rhs; rw [← List.map_id l]
  refine List.map_congr_left fun x hx => ?_
  have := h x hx
  simp only [Function.comp, id]
  rw [UInt8.toNat_ofNat']
  omega
def nB (l : List UInt8) : List Int := l.map fun b => (b.toNat : Int)
theorem nB_rows (l : List UInt8) : l.map byteRow = (nB l).map (iD .u8) := by
  rw [nB, List.map_map]; rfl
theorem nB_bytes (l : List UInt8) : Bytes (nB l) := fun x hx => by
  obtain ⟨b, -, rfl⟩ := List.mem_map.mp hx
  have := b.toNat_lt
  omega
theorem nB_len (l : List UInt8) : (nB l).length = l.length := by rw [nB, List.length_map]
theorem draws0 (Γ : Gam) : DrawOk Try.prog Γ (DRun Try.prog Gam.none) := Draws (Γ := Gam.none) mixed (Known.none Try.prog).ok (Known.none Try.prog).loc
theorem puts_bytes (l : List Int) : Bytes (puts l) := fun x hx => by
  obtain ⟨r, -, h⟩ := List.mem_flatMap.mp hx
  exact Utf.put_bytes r x h
theorem ba_size (l : List UInt8) : (⟨l.toArray⟩ : ByteArray).size = l.length := by rw [ByteArray.size]; simp
theorem ba_app (a b : List UInt8) : (⟨a.toArray⟩ : ByteArray) ++ ⟨b.toArray⟩ = ⟨(a ++ b).toArray⟩ := by
  apply ByteArray.ext
  simp
theorem ba_self (s : ByteArray) : (⟨s.data.toList.toArray⟩ : ByteArray) = s := by cases s; rfl
theorem size_toList (t : ByteArray) : t.data.toList.length = t.size := by rw [Array.length_toList]; rfl
theorem drop_at {α : Type} {l : List α} {j : Nat} {d : α} (h : l[j]? = some d) : l.drop j = d :: l.drop (j + 1) := by
  obtain ⟨hlt', rfl⟩ := List.getElem?_eq_some_iff.mp h
  exact List.drop_eq_getElem_cons hlt'
theorem take_at {α : Type} {l : List α} {j : Nat} {d : α} (h : l[j]? = some d) : l.take (j + 1) = l.take j ++ [d] := by rw [List.take_add_one, h]; rfl
theorem getD_map {α : Type} {f : α → List Dat} {l : List α} {j : Nat} {d : α} (h : l[j]? = some d) (z : List Dat) : (l.map f).getD (j : Int).toNat z = f d := by
  rw [Int.toNat_natCast, List.getD_eq_getElem?_getD, List.getElem?_map, h]; rfl
theorem byteRow_back (x : UInt8) : UInt8.ofNat (byteOf (byteRow x)).toNat = x := by simp [byteRow, byteOf]
theorem byteRows_ok (l : List UInt8) : (∀ r ∈ l.map byteRow, r = byteRow (UInt8.ofNat (byteOf r).toNat)) ∧ (l.map byteRow).map (fun r => UInt8.ofNat (byteOf r).toNat) = l := by
  refine ⟨fun r hr => ?_, ?_⟩
  · obtain ⟨x, -, rfl⟩ := List.mem_map.mp hr
    rw [byteRow_back]
  · rw [List.map_map]
    exact (List.map_congr_left fun x _ => byteRow_back x).trans (List.map_id l)
end Go.Proofs.Ytlhhibhcoefolaa.Eng
