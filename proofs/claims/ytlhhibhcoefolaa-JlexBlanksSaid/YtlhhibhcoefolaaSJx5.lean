/- Where numbers end, as the code goes and as it is (jlex). -/
import Derived.Test.YtlhhibhcoefolaaSJx4
import Derived.Test.YtlhhibhcoefolaaJlex
namespace Go.Proofs.Ytlhhibhcoefolaa.Eng
open Go Go.Proofs.Ytlhhibhcoefolaa.Base
set_option maxRecDepth 100000
set_option linter.unusedSimpArgs false
set_option linter.unusedVariables false
theorem fin_int {p : Int → Prop} (h : ∀ n : Fin 256, p n.val) {c : Int} (h0 : 0 ≤ c ∧ c < 256) : p c := by
  obtain ⟨k, rfl⟩ := Int.eq_ofNat_of_zero_le h0.1
  exact h ⟨k, by omega⟩
theorem in_minus {c : Int} (h : 0 ≤ c ∧ c < 256) : inB ⟨#[45]⟩ c = decide (c = 45) := fin_int (p := fun c => inB ⟨#[45]⟩ c = decide (c = 45)) (by decide +kernel) h
theorem in_zero {c : Int} (h : 0 ≤ c ∧ c < 256) : inB ⟨#[48]⟩ c = decide (c = 48) := fin_int (p := fun c => inB ⟨#[48]⟩ c = decide (c = 48)) (by decide +kernel) h
theorem in_dot {c : Int} (h : 0 ≤ c ∧ c < 256) : inB ⟨#[46]⟩ c = decide (c = 46) := fin_int (p := fun c => inB ⟨#[46]⟩ c = decide (c = 46)) (by decide +kernel) h
theorem in_e {c : Int} (h : 0 ≤ c ∧ c < 256) : inB ⟨#[101, 69]⟩ c = decide (c = 101 ∨ c = 69) := fin_int (p := fun c => inB ⟨#[101, 69]⟩ c = decide (c = 101 ∨ c = 69)) (by decide +kernel) h
theorem in_pm {c : Int} (h : 0 ≤ c ∧ c < 256) : inB ⟨#[43, 45]⟩ c = decide (c = 43 ∨ c = 45) := fin_int (p := fun c => inB ⟨#[43, 45]⟩ c = decide (c = 43 ∨ c = 45)) (by decide +kernel) h
theorem in_u {c : Int} (h : 0 ≤ c ∧ c < 256) : inB ⟨#[117]⟩ c = decide (c = 117) := fin_int (p := fun c => inB ⟨#[117]⟩ c = decide (c = 117)) (by decide +kernel) h
theorem in_go {c : Int} (h : 0 ≤ c ∧ c < 256) : goB c = Jlex.go c := fin_int (p := fun c => goB c = Jlex.go c) (by decide +kernel) h
theorem in_hex {c : Int} (h : 0 ≤ c ∧ c < 256) : hexB c = Jlex.hexb c := fin_int (p := fun c => hexB c = Jlex.hexb c) (by decide +kernel) h
theorem oneV_cons {p : Int → Bool} {l t : List Int} {a : Nat} {c : Int} (h : l.drop a = c :: t) : oneV p l a = p c := by
  have h1 : l[a]? = some c := by have := congrArg List.head? h; rwa [List.head?_drop] at this
  unfold oneV
  obtain ⟨h2, h3⟩ := List.getElem?_eq_some_iff.1 h1
  rw [decide_eq_true h2, Bool.true_and, List.getD_eq_getElem?_getD, h1]; rfl
theorem oneV_nil {p : Int → Bool} {l : List Int} {a : Nat} (h : l.drop a = []) : oneV p l a = false := by
  unfold oneV
  rw [decide_eq_false (by have := List.drop_eq_nil_iff.1 h; omega), Bool.false_and]
theorem drop_tail {l t : List Int} {a : Nat} {c : Int} (h : l.drop a = c :: t) : l.drop (a + 1) = t := by
  rw [← List.drop_drop, h]; rfl
theorem byte_at {l t : List Int} (hb : Bytes l) {a : Nat} {c : Int} (h : l.drop a = c :: t) : 0 ≤ c ∧ c < 256 :=
  hb c ((List.drop_sublist a l).subset (by rw [h]; exact List.mem_cons_self))
def ansN (a : Nat) : Option Nat → Int
  | none => -1
  | some n => ((a + n : Nat) : Int)
theorem ansN_map (a k : Nat) (o : Option Nat) : ansN a (o.map (· + k)) = ansN (a + k) o := by
  cases o with
  | none => rfl
  | some n => simp only [Option.map_some, ansN]; congr 1; omega
theorem runN_dl (l : List Int) (a : Nat) : runN digB l a = a + Jlex.dl (l.drop a) := rfl
theorem oneV_dig (l : List Int) (a : Nat) : oneV digB l a = false ↔ Jlex.dl (l.drop a) = 0 := by
  rcases h : l.drop a with _ | ⟨c, t⟩
  · rw [oneV_nil h]; exact ⟨fun _ => rfl, fun _ => rfl⟩
  · rw [oneV_cons h]
    unfold Jlex.dl
    rw [List.takeWhile_cons]
    show digB c = false ↔ (if digB c = true then _ else _ : List Int).length = 0
    cases digB c <;> simp
theorem oneV_goes {l : List Int} (hb : Bytes l) (a : Nat) : oneV goB l a = Jlex.goes (l.drop a) := by
  rcases h : l.drop a with _ | ⟨c, t⟩
  · rw [oneV_nil h]; rfl
  · rw [oneV_cons h, in_go (byte_at hb h)]; rfl
theorem nb3 {l : List Int} (hb : Bytes l) (b : Nat) : (if oneV digB l b = false then -1 else if oneV goB l (runN digB l b) = true then -1 else (runN digB l b : Int)) = ansN b (Jlex.nE3 (l.drop b)) := by
  unfold Jlex.nE3
  rw [oneV_goes hb, runN_dl, ← List.drop_drop]
  by_cases c : Jlex.dl (l.drop b) = 0
  · rw [if_pos ((oneV_dig l b).2 c), if_pos c]; rfl
  · rw [if_neg (fun h => c ((oneV_dig l b).1 h)), if_neg c]
    split
    · rfl
    · rfl
theorem nbE_eq {l : List Int} (hb : Bytes l) (a : Nat) : nbE l a = ansN a (Jlex.nE2 (l.drop a)) := by
  unfold nbE
  rcases h : l.drop a with _ | ⟨c, t⟩
  · rw [oneV_nil h, oneV_nil h]; rfl
  · have hc := byte_at hb h
    rw [oneV_cons h, oneV_cons h, in_e hc, in_go hc]
    simp only [decide_eq_true_eq]
    unfold Jlex.nE2
    by_cases c1 : c = 101 ∨ c = 69
    · simp only [if_pos c1]
      have h1 := drop_tail h
      rcases t with _ | ⟨s, t⟩
      · rw [oneV_nil h1]
        simp only [Bool.false_eq_true, if_false]
        rw [oneV_nil h1]; rfl
      · have hs := byte_at hb h1
        rw [oneV_cons h1, in_pm hs]
        simp only [decide_eq_true_eq]
        by_cases c2 : s = 43 ∨ s = 45
        · simp only [if_pos c2]
          rw [nb3 hb, drop_tail h1, ansN_map]
        · simp only [if_neg c2]
          rw [nb3 hb, h1, ansN_map]
    · simp only [if_neg c1]
      split
      · rfl
      · rfl
theorem nbF_eq {l : List Int} (hb : Bytes l) (a : Nat) : nbF l a = ansN a (Jlex.nE1 (l.drop a)) := by
  unfold nbF
  rcases h : l.drop a with _ | ⟨c, t⟩
  · rw [oneV_nil h, if_neg Bool.false_ne_true, nbE_eq hb, h]; rfl
  · have hc := byte_at hb h
    rw [oneV_cons h, in_dot hc]
    simp only [decide_eq_true_eq]
    unfold Jlex.nE1
    by_cases c1 : c = 46
    · simp only [if_pos c1]
      have h1 := drop_tail h
      by_cases c2 : Jlex.dl t = 0
      · rw [if_pos ((oneV_dig l _).2 (h1 ▸ c2)), if_pos c2]; rfl
      · rw [if_neg (fun q => c2 (h1 ▸ (oneV_dig l _).1 q)), if_neg c2, nbE_eq hb, runN_dl, h1, ansN_map, ← List.drop_drop, h1]
        congr 1; omega
    · simp only [if_neg c1]
      rw [nbE_eq hb, h]
theorem nbD_eq {l : List Int} (hb : Bytes l) (a : Nat) : nbD l a = ansN a (Jlex.nE0 (l.drop a)) := by
  unfold nbD
  rcases h : l.drop a with _ | ⟨c, t⟩
  · rw [oneV_nil h, oneV_nil h]; rfl
  · have hc := byte_at hb h
    rw [oneV_cons h, in_zero hc]
    simp only [decide_eq_true_eq]
    unfold Jlex.nE0
    by_cases c1 : c = 48
    · simp only [if_pos c1]
      rw [nbF_eq hb, drop_tail h, ansN_map]
    · simp only [if_neg c1]
      by_cases c2 : Jlex.dl (c :: t) = 0
      · rw [(oneV_dig l a).2 (h ▸ c2), if_pos c2]; rfl
      · have c3 : oneV digB l a = true := by
          rw [← Bool.not_eq_false]
          exact fun q => c2 (h ▸ (oneV_dig l a).1 q)
        rw [c3, if_pos rfl, if_neg c2, nbF_eq hb, runN_dl, h, ansN_map, ← List.drop_drop, h]
theorem nbV_eq {l : List Int} (hb : Bytes l) (a : Nat) : nbV l a = ansN a (Jlex.numLen (l.drop a)) := by
  unfold nbV
  rcases h : l.drop a with _ | ⟨c, t⟩
  · rw [oneV_nil h, if_neg Bool.false_ne_true, nbD_eq hb, h]; rfl
  · have hc := byte_at hb h
    rw [oneV_cons h, in_minus hc]
    simp only [decide_eq_true_eq]
    unfold Jlex.numLen
    by_cases c1 : c = 45
    · simp only [if_pos c1]
      rw [nbD_eq hb, drop_tail h, ansN_map]
    · simp only [if_neg c1]
      rw [nbD_eq hb, h]
def F_nbj : List AV → Option (Prop × AV)
  | [.d (.sl 1 xs), .d (.v (.int .i64 a))] => some (xs = (xs.map numOf).map (iD .u8) ∧ Bytes (xs.map numOf) ∧ xs.length ≤ 100000000 ∧ 0 ≤ a ∧ a ≤ xs.length, vInt .i64 (ansN a.toNat (Jlex.numLen ((xs.map numOf).drop a.toNat))))
  | _ => none
theorem nbj_calm : ∀ args sc res, F_nbj args = some (sc, res) → sc → Calm Try.prog 24 args res := by
  intro args sc res h hs
  unfold F_nbj at h
  split at h <;> cases h
  rename_i xs a
  obtain ⟨h1, hb, h2, h3, h4⟩ := hs
  obtain ⟨k, rfl⟩ := Int.eq_ofNat_of_zero_le h3
  have hq := nbj_body (xs.map numOf) k (by simpa using h2) (by simpa using h4)
  rw [bytesD, ← h1, nbV_eq hb] at hq
  exact known_G_nbj.calm mixed rfl rfl hq
end Go.Proofs.Ytlhhibhcoefolaa.Eng
