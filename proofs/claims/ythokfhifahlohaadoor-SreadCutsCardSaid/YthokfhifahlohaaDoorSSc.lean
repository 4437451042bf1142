/- The law SreadCuts. -/
import Derived.Test.YthokfhifahlohaaDoorSSw
namespace Go.Proofs.YthokfhifahlohaaDoor.Eng
open Go Go.Proofs.YthokfhifahlohaaDoor.Base
set_option maxRecDepth 100000
set_option linter.unusedSimpArgs false
set_option linter.unusedVariables false
/- Numbers are read as they were written. -/
def letL (x : Nat) : UInt8 := letB.data.toList.getD x 0
theorem dig_data : ∀ k : Fin 64, (dig k.val).data.toList = [letL k.val] := by decide +kernel
theorem letL_inj : ∀ a b : Fin 64, letL a.val = letL b.val → a = b := by decide +kernel
theorem letL_no : ∀ a : Fin 64, letL a.val ≠ 59 ∧ letL a.val ≠ 44 := by decide +kernel
def vdL (x : Nat) : List UInt8 := (vd x).data.toList
theorem vdL_lo {x : Nat} (h : x < 32) : vdL x = [letL x] := by rw [vdL, vd_lo h]; exact dig_data ⟨x, by omega⟩
theorem vdL_hi {x : Nat} (h : ¬ x < 32) : vdL x = letL (x % 32 + 32) :: vdL (x / 32) := by
  rw [vdL, vd_hi h]
  have := dig_data ⟨x % 32 + 32, by omega⟩
  simp only at this
  rw [ByteArray.data_append, Array.toList_append, this]; rfl
theorem vdL_pre : ∀ (n x y : Nat) (X Y : List UInt8), x ≤ n → vdL x ++ X = vdL y ++ Y → x = y ∧ X = Y := by
  intro n
  induction n using Nat.strongRecOn with
  | ind n ih =>
    intro x y X Y hx h
    by_cases h1 : x < 32 <;> by_cases h2 : y < 32
    · rw [vdL_lo h1, vdL_lo h2, List.cons_append, List.cons_append, List.cons.injEq] at h
      have := letL_inj ⟨x, by omega⟩ ⟨y, by omega⟩ h.1
      simp only [Fin.mk.injEq] at this
      exact ⟨this, h.2⟩
    · rw [vdL_lo h1, vdL_hi h2, List.cons_append, List.cons_append, List.cons.injEq] at h
      have := letL_inj ⟨x, by omega⟩ ⟨y % 32 + 32, by omega⟩ h.1
      simp only [Fin.mk.injEq] at this
      omega
    · rw [vdL_hi h1, vdL_lo h2, List.cons_append, List.cons_append, List.cons.injEq] at h
      have := letL_inj ⟨x % 32 + 32, by omega⟩ ⟨y, by omega⟩ h.1
      simp only [Fin.mk.injEq] at this
      omega
    · rw [vdL_hi h1, vdL_hi h2, List.cons_append, List.cons_append, List.cons.injEq] at h
      have := letL_inj ⟨x % 32 + 32, by omega⟩ ⟨y % 32 + 32, by omega⟩ h.1
      simp only [Fin.mk.injEq] at this
      obtain ⟨h3, h4⟩ := ih (x / 32) (by omega) (x / 32) (y / 32) X Y (Nat.le_refl _) h.2
      exact ⟨by omega, h4⟩
theorem vdL_hd (x : Nat) : ∃ k : Fin 64, ∃ t, vdL x = letL k.val :: t := by
  by_cases h : x < 32
  · exact ⟨⟨x, by omega⟩, [], vdL_lo h⟩
  · exact ⟨⟨x % 32 + 32, by omega⟩, _, vdL_hi h⟩
def inV (n : Int) : Prop := -1099511627776 ≤ n ∧ n ≤ 1099511627776
theorem vq_L {n : Int} (h : inV n) : (vq n).data.toList = vdL (vx n) := by
  rw [vq, if_neg (by unfold inV at h; omega)]; rfl
theorem vx_inj {a b : Int} (h : vx a = vx b) : a = b := by
  unfold vx at h
  split at h <;> split at h <;> omega
theorem vq_pre {a b : Int} {X Y : List UInt8} (ha : inV a) (hb : inV b) (h : (vq a).data.toList ++ X = (vq b).data.toList ++ Y) : a = b ∧ X = Y := by
  rw [vq_L ha, vq_L hb] at h
  obtain ⟨h1, h2⟩ := vdL_pre _ _ _ _ _ (Nat.le_refl _) h
  exact ⟨vx_inj h1, h2⟩
theorem vqs_pre : ∀ (l m : List Int) (X Y : List UInt8), l.length = m.length → (∀ n ∈ l, inV n) → (∀ n ∈ m, inV n) → (l.flatMap fun n => (vq n).data.toList) ++ X = (m.flatMap fun n => (vq n).data.toList) ++ Y → l = m ∧ X = Y
  | [], [], X, Y, _, _, _, h => ⟨rfl, h⟩
  | [], _ :: _, _, _, h, _, _, _ => by cases h
  | _ :: _, [], _, _, h, _, _, _ => by cases h
  | a :: l, b :: m, X, Y, hl, h1, h2, h => by
    rw [List.flatMap_cons, List.flatMap_cons, List.append_assoc, List.append_assoc] at h
    obtain ⟨rfl, h3⟩ := vq_pre (h1 a List.mem_cons_self) (h2 b List.mem_cons_self) h
    obtain ⟨rfl, h4⟩ := vqs_pre l m X Y (by simpa using hl) (fun n hn => h1 n (List.mem_cons_of_mem _ hn)) (fun n hn => h2 n (List.mem_cons_of_mem _ hn)) h3
    exact ⟨rfl, h4⟩
/- A segment's text begins another text only if it is that segment's. -/
theorem numsB_in {p s : Sg} (hp : (0 ≤ p.b ∧ p.b ≤ 1073741824) ∧ (0 ≤ p.c ∧ p.c ≤ 1073741824) ∧ 0 ≤ p.d ∧ p.d ≤ 1073741824) (hs : inS s) : ∀ n ∈ numsB p s, inV n := by
  obtain ⟨s1, s2, s3, s4⟩ := hs
  intro n hn
  unfold numsB at hn
  simp only [List.mem_cons, List.not_mem_nil, or_false] at hn
  unfold inV
  rcases hn with rfl | rfl | rfl | rfl
  · split <;> omega
  · omega
  · omega
  · omega
theorem numsB_hd (p s : Sg) (hb : inV (s.b - (if s.a > p.a then 0 else p.b))) (X : List UInt8) : ∃ k : Fin 64, ∃ t, ((numsB p s).flatMap fun n => (vq n).data.toList) ++ X = letL k.val :: t := by
  obtain ⟨k, t, e⟩ := vdL_hd (vx (s.b - (if s.a > p.a then 0 else p.b)))
  rw [numsB, List.flatMap_cons, vq_L hb, e]
  exact ⟨k, _, rfl⟩
theorem reps_pre : ∀ (n m : Nat) (X Y : List UInt8), (∀ t, X ≠ 59 :: t) → (∀ t, Y ≠ 59 :: t) → List.replicate n (59 : UInt8) ++ X = List.replicate m 59 ++ Y → n = m ∧ X = Y
  | 0, 0, _, _, _, _, h => ⟨rfl, h⟩
  | 0, m + 1, X, Y, hX, _, h => absurd h (hX _)
  | n + 1, 0, X, Y, _, hY, h => absurd h.symm (hY _)
  | n + 1, m + 1, X, Y, hX, hY, h => by
    rw [List.replicate_succ, List.replicate_succ, List.cons_append, List.cons_append, List.cons.injEq] at h
    obtain ⟨h1, h2⟩ := reps_pre n m X Y hX hY h.2
    exact ⟨by omega, h2⟩
theorem seg_pre {j : Nat} {p s t : Sg} {X Y : List UInt8} (hp : (0 ≤ p.b ∧ p.b ≤ 1073741824) ∧ (0 ≤ p.c ∧ p.c ≤ 1073741824) ∧ 0 ≤ p.d ∧ p.d ≤ 1073741824) (hs : inS s) (ht : inS t) (as_ : p.a ≤ s.a) (at_ : p.a ≤ t.a) (h : segB j p s ++ X = segB j p t ++ Y) : s = t ∧ X = Y := by
  have is := numsB_in hp hs
  have it := numsB_in hp ht
  obtain ⟨k1, t1, e1⟩ := numsB_hd p s (is _ (by simp [numsB])) X
  obtain ⟨k2, t2, e2⟩ := numsB_hd p t (it _ (by simp [numsB])) Y
  have n1 := letL_no k1
  have n2 := letL_no k2
  rw [segB, segB, List.append_assoc, List.append_assoc] at h
  have fin : s.a = t.a → ((numsB p s).flatMap fun n => (vq n).data.toList) ++ X = ((numsB p t).flatMap fun n => (vq n).data.toList) ++ Y → s = t ∧ X = Y := fun ha hh => by
    obtain ⟨h1, h2⟩ := vqs_pre _ _ X Y (by simp [numsB]) is it hh
    refine ⟨?_, h2⟩
    simp only [numsB, ha, List.cons.injEq, and_true] at h1
    cases s; cases t
    simp only at ha h1
    simp only [Sg.mk.injEq]
    exact ⟨ha, by omega, by omega, by omega⟩
  unfold aheadB at h
  by_cases cs : s.a > p.a <;> by_cases ct : t.a > p.a
  · rw [if_pos cs, if_pos ct] at h
    obtain ⟨h1, h2⟩ := reps_pre _ _ _ _ (fun t q => by rw [e1, List.cons.injEq] at q; exact n1.1 q.1) (fun t q => by rw [e2, List.cons.injEq] at q; exact n2.1 q.1) h
    exact fin (by omega) h2
  · rw [if_pos cs, if_neg ct] at h
    exfalso
    obtain ⟨m, hm⟩ : ∃ m, (s.a - p.a).toNat = m + 1 := ⟨(s.a - p.a).toNat - 1, by omega⟩
    rw [hm, List.replicate_succ, List.cons_append] at h
    split at h
    · rw [List.cons_append, List.cons.injEq] at h; exact absurd h.1 (by decide)
    · rw [List.nil_append, e2, List.cons.injEq] at h; exact n2.1 h.1.symm
  · rw [if_neg cs, if_pos ct] at h
    exfalso
    obtain ⟨m, hm⟩ : ∃ m, (t.a - p.a).toNat = m + 1 := ⟨(t.a - p.a).toNat - 1, by omega⟩
    rw [hm, List.replicate_succ, List.cons_append] at h
    split at h
    · rw [List.cons_append, List.cons.injEq] at h; exact absurd h.1 (by decide)
    · rw [List.nil_append, e1, List.cons.injEq] at h; exact n1.1 h.1
  · rw [if_neg cs, if_neg ct] at h
    exact fin (by omega) (List.append_cancel_left h)
theorem last_ok {l : List Sg} {j : Nat} {s : Sg} (hok : okS l l.length) (hs : l[j]? = some s) : ((0 ≤ (lastS (l.take j)).b ∧ (lastS (l.take j)).b ≤ 1073741824) ∧ (0 ≤ (lastS (l.take j)).c ∧ (lastS (l.take j)).c ≤ 1073741824) ∧ 0 ≤ (lastS (l.take j)).d ∧ (lastS (l.take j)).d ≤ 1073741824) ∧ (lastS (l.take j)).a ≤ s.a := by
  have := last_in hok (List.getElem?_eq_some_iff.1 hs).1 hs
  omega
theorem mapB_succ (l : List Sg) {j : Nat} {s : Sg} (hs : l[j]? = some s) : mapB l (j + 1) = mapB l j ++ segB j (lastS (l.take j)) s := by
  rw [mapB, hs]
theorem mapB_split (l : List Sg) : ∀ (n j : Nat), j + n ≤ l.length → ∃ r, mapB l (j + n) = mapB l j ++ r ∧ (0 < n → ∃ s r', l[j]? = some s ∧ r = segB j (lastS (l.take j)) s ++ r')
  | 0, j, _ => ⟨[], by simp, fun h => by omega⟩
  | n + 1, j, h => by
    obtain ⟨s, hs⟩ : ∃ s, l[j]? = some s := ⟨_, List.getElem?_eq_getElem (by omega)⟩
    obtain ⟨r, h1, _⟩ := mapB_split l n (j + 1) (by omega)
    refine ⟨segB j (lastS (l.take j)) s ++ r, ?_, fun _ => ⟨s, r, hs, rfl⟩⟩
    rw [show j + (n + 1) = j + 1 + n by omega, h1, mapB_succ l hs, List.append_assoc]
theorem mapB_take {l m : List Sg} : ∀ (j : Nat), j ≤ l.length → j ≤ m.length → l.take j = m.take j → mapB l j = mapB m j
  | 0, _, _, _ => by rw [mapB, mapB]
  | j + 1, h1, h2, h => by
    obtain ⟨s, hs⟩ : ∃ s, l[j]? = some s := ⟨_, List.getElem?_eq_getElem (by omega)⟩
    obtain ⟨t, ht⟩ : ∃ t, m[j]? = some t := ⟨_, List.getElem?_eq_getElem (by omega)⟩
    rw [take_at hs, take_at ht] at h
    obtain ⟨h3, h4⟩ := List.append_inj' h rfl
    cases h4
    rw [mapB_succ l hs, mapB_succ m ht, mapB_take j (by omega) (by omega) h3, h3]
theorem segB_ne (j : Nat) (p s : Sg) (hb : inV (s.b - (if s.a > p.a then 0 else p.b))) (X : List UInt8) : segB j p s ++ X ≠ [] := by
  obtain ⟨k, t, e⟩ := numsB_hd p s hb X
  intro h
  rw [segB, List.append_assoc, e] at h
  have := congrArg List.length h
  simp at this
theorem cut_pre {l m : List Sg} (hl : okS l l.length) (hm : okS m m.length) (X : List UInt8) (h : mapB m m.length ++ X = mapB l l.length) : ∀ j, j ≤ m.length → j ≤ l.length ∧ m.take j = l.take j
  | 0, _ => ⟨Nat.zero_le _, by rw [List.take_zero, List.take_zero]⟩
  | j + 1, hj => by
    obtain ⟨i1, i2⟩ := cut_pre hl hm X h j (by omega)
    obtain ⟨rm, m1, m2⟩ := mapB_split m (m.length - j) j (by omega)
    obtain ⟨rl, l1, l2⟩ := mapB_split l (l.length - j) j (by omega)
    rw [show j + (m.length - j) = m.length by omega] at m1
    rw [show j + (l.length - j) = l.length by omega] at l1
    obtain ⟨s, r', hs, rfl⟩ := m2 (by omega)
    have he := mapB_take j (by omega) i1 i2
    rw [m1, l1, he, List.append_assoc] at h
    have h := List.append_cancel_left h
    rw [List.append_assoc] at h
    obtain ⟨q1, q2⟩ := last_ok hm hs
    have hin := (hm j (by omega) s hs).1
    have hnum := numsB_in q1 hin
    by_cases hjl : j < l.length
    · obtain ⟨t, r2, ht, rfl⟩ := l2 (by omega)
      obtain ⟨q3, q4⟩ := last_ok hl ht
      rw [i2] at h q1 q2
      obtain ⟨h1, _⟩ := seg_pre q1 hin (hl j hjl t ht).1 q2 q4 h
      subst h1
      exact ⟨by omega, by rw [take_at hs, take_at ht, i2]⟩
    · exfalso
      have hr : rl = [] := by
        have : mapB l l.length = mapB l j := by rw [show l.length = j by omega]
        rw [this] at l1
        have := congrArg List.length l1
        rw [List.length_append] at this
        exact List.eq_nil_of_length_eq_zero (by omega)
      rw [hr] at h
      exact segB_ne j _ s (hnum _ (by simp [numsB])) _ h
theorem few_len (l : List Sg) (hok : okS l l.length) : ∀ j, j ≤ l.length → (mapB l j).length ≤ 37 * j + (lastS (l.take j)).a.toNat
  | 0, _ => by rw [mapB]; exact Nat.zero_le _
  | j + 1, h => by
    obtain ⟨s, hs⟩ : ∃ s, l[j]? = some s := ⟨_, List.getElem?_eq_getElem (by omega)⟩
    have ih := few_len l hok j (by omega)
    have h1 := last_in hok (show j < l.length by omega) hs
    have h2 := seg_len j (lastS (l.take j)) s h1.2.1
    have h3 : lastS (l.take (j + 1)) = s := last_at (by omega) (by simpa using hs)
    rw [mapB_succ l hs, List.length_append, h3]
    omega
theorem few_size {l : List Sg} (hok : okS l l.length) (hf : fewS l = true) : (mapT l).size ≤ 2420 := by
  have h1 := few_len l hok l.length (Nat.le_refl _)
  rw [List.take_of_length_le (Nat.le_refl _)] at h1
  rw [fewS, decide_eq_true_eq] at hf
  rw [mapT, ba_size]
  have h2 : (lastS l).a.toNat ≤ 200 := by
    cases hl : l.getLast? with
    | none =>
      have : l = [] := List.getLast?_eq_none_iff.1 hl
      subst this; exact Nat.zero_le _
    | some s =>
      have hm : s ∈ l := List.mem_of_getLast? hl
      have e : lastS l = s := by rw [lastS, List.getLastD_eq_getLast?, hl]; rfl
      obtain ⟨i, hi, hs⟩ := List.getElem_of_mem hm
      have hin := (hok i hi s (by rw [List.getElem?_eq_getElem hi, hs])).1
      have hn := hf.1 s hm
      unfold farL at hn
      obtain ⟨⟨a1, a2⟩, _⟩ := hin
      rw [e]; omega
  omega
theorem cuts_plain {l m : List Sg} {s : ByteArray} {k : Nat} (hl : okS l l.length) (hs : s = (mapT l).extract 0 k) (h : readT s = (m, true)) : m.length ≤ l.length ∧ l.take m.length = m := by
  have hm : okS m m.length ∧ mapT m = s := by
    unfold readT at h
    split at h
    · split at h
      · rename_i hc; cases h; exact hc
      · cases h
    · cases h
  have e : mapB m m.length ++ (mapB l l.length).drop k = mapB l l.length := by
    have h1 : mapB m m.length = (mapB l l.length).take k := by
      have h2 := congrArg (fun b : ByteArray => b.data.toList) (hm.2.trans hs)
      simp only [mapT, ByteArray.data_extract] at h2
      simpa using h2
    rw [h1, List.take_append_drop]
  obtain ⟨h1, h2⟩ := cut_pre hl hm.1 _ e m.length (Nat.le_refl _)
  rw [List.take_of_length_le (Nat.le_refl _)] at h2
  exact ⟨h1, h2.symm⟩
theorem readT_no {s : ByteArray} (h : (readT s).2 = false) : (readT s).1 = [] := by
  unfold readT at h ⊢
  split
  · rename_i e
    rw [e] at h
    simp only at h
    split
    · rename_i c; rw [if_pos c] at h; cases h
    · rfl
  · rfl
noncomputable def G25c : Gam := ((((Gam.none.add 5 fun a => F_alive25 (NT.nz.nzL [] a)).add 8 fun a => F_maps (NT.nz.nzL [] a)).add 6 fun a => F_rmap (NT.nz.nzL [.s 4] a)).add 7 fun a => F_fewS (NT.nz.nzL [.s 4] a)).add 9 fun a => F_sameSg (NT.nz.nzL [.s 4, .s 4] a)
theorem known25c : Known Tryd.prog G25c := (((((Known.none _).addC _ alive25_c).addC _ maps_calm).addC _ rmap_calm).addC _ fewS_calm).addC _ sameSg_calm
theorem G25c_at : (∀ h d a, G25c 5 h d a = calmE (fun a => F_alive25 (NT.nz.nzL [] a)) h a) ∧ (∀ h d a, G25c 8 h d a = calmE (fun a => F_maps (NT.nz.nzL [] a)) h a) ∧ (∀ h d a, G25c 6 h d a = calmE (fun a => F_rmap (NT.nz.nzL [.s 4] a)) h a) ∧ (∀ h d a, G25c 7 h d a = calmE (fun a => F_fewS (NT.nz.nzL [.s 4] a)) h a) ∧ (∀ h d a, G25c 9 h d a = calmE (fun a => F_sameSg (NT.nz.nzL [.s 4, .s 4] a)) h a) := ⟨fun _ _ _ => rfl, fun _ _ _ => rfl, fun _ _ _ => rfl, fun _ _ _ => rfl, fun _ _ _ => rfl⟩
theorem SreadCuts_body (l : List Sg) (cut : Int) (h1 : l.length ≤ maxLen ∧ ∀ x ∈ l, (((Lit.int .i64 x.a).wf = true ∧ (Lit.int .i64 x.b).wf = true) ∧ (Lit.int .i64 x.c).wf = true) ∧ (Lit.int .i64 x.d).wf = true) (_ : (Lit.int .i64 cut).wf = true) : Body Tryd.prog G25c (DRun Tryd.prog G25c) 3 [.d (sgsD l), .d (.v (.int .i64 cut))] (vBool true) := by
  refine Body.of Tryd.func3 Tryd.ntmps3 (by kernel_rfl) rfl rfl rfl ?_
  have nz4 : ∀ xs, (NT.s 4).nz (.d (.sl 4 xs)) = .d (.sl 4 xs) := fun xs => rfl
  by_cases hok : okS l l.length
  rotate_left
  · have hm := mapS_no hok
    simp only [sgsD, sgOf_map, nz4, hm, G25c_at, calmE, F_alive25, F_maps, F_rmap, F_fewS, F_sameSg, AV.flat, AV.flat.flatL, List.length_map, List.map_cons, List.map_nil, goTG_val, goTG_new, goTG_up, goTG_none, goG_none, goG_new, goG_up, ne_eq, evK, evH, retHF, DRun_mk, runT_nil, runT_none, runT_guard, goT_val, goT_new, goT_store, goTH_true, goTH_false, evO, keys, Option.toList_some, Option.toList_none, nzL_nil, nzL_cons, nz_k, nz_sl, nz_nil, nz_agg, startL, evC, evV, goE_val, goE_new, goE_store, goH_true, goH_false, goG_val, lk_cons, lk_nil, lk_func, lk_int, lk_bool, lk_string, lk_slice, lk_agg, look_mk, St.effOf, eff, effCall, effBin, effUn, effConv, effPick, effNil, effFold, fold1, effLoad, effStore, effFieldAddr, effField, fieldOf, sliceOf, effIndexAddr, effIndex, effLen, effExtract, effSlice, bnd, effBuild, placesOf, effBuildSlice, effMakeSlice, effAppend, srcOf, fillA, chunk, seg, toD, toDs, put, eqAV, fieldsEq, leafEq, strip, unw, allB, selP_or, selP_and, tis, TyD.agg, AV.cells, AV.cell, allCell, vInt, vBool, vStr, subL_nil, subL_cons, upIds, AV.ids, AV.ids.idsL, AObj.ids, drops, Hp.get_cons, get_nil, retF, resL, one, fz, fz.fzL, List.map_cons, List.map_nil, List.nil_append, List.append_nil, List.cons_append, List.all_cons, List.all_nil, List.length_cons, List.length_nil, List.getElem?_cons_zero, List.getElem?_cons_succ, List.getD_cons_zero, List.getD_cons_succ, List.take_succ_cons, List.take_zero, List.drop_succ_cons, List.drop_zero, List.take_nil, List.drop_nil, List.contains_cons, List.contains_nil, Option.getD_some, Option.getD_none, Option.map_some, Option.map_none, if_true, if_false, true_and, and_true, and_self, or_self, or_false, false_or, false_and, and_false, reduceCtorEq, sel_and, sel_or, decide_eq_true_eq, Bool.and_eq_true, Bool.or_eq_true, Bool.and_true, Bool.true_and, Bool.or_false, Bool.false_or, Bool.true_or, Bool.or_true, Bool.not_true, Bool.not_false, Bool.false_eq_true, implies_true, not_false_eq_true, Nat.reduceLT, Nat.reduceEqDiff, Nat.reduceAdd, Nat.reduceMul, Nat.reduceMod, Nat.reduceLeDiff, Nat.reduceBEq, Nat.zero_add, Nat.add_zero, reduceIte, ↓reduceIte, List.not_mem_nil]
    exact ⟨h1.1, fun _ => h1.1, Sub.refl _⟩
  have hm := mapS_yes hok
  simp only [sgsD, sgOf_map, nz4, hm, readA, G25c_at, calmE, F_alive25, F_maps, F_rmap, F_fewS, F_sameSg, AV.flat, AV.flat.flatL, List.length_map, List.map_cons, List.map_nil, goTG_val, goTG_new, goTG_up, goTG_none, goG_none, goG_new, goG_up, ne_eq, evK, evH, retHF, DRun_mk, runT_nil, runT_none, runT_guard, goT_val, goT_new, goT_store, goTH_true, goTH_false, evO, keys, Option.toList_some, Option.toList_none, nzL_nil, nzL_cons, nz_k, nz_sl, nz_nil, nz_agg, startL, evC, evV, goE_val, goE_new, goE_store, goH_true, goH_false, goG_val, lk_cons, lk_nil, lk_func, lk_int, lk_bool, lk_string, lk_slice, lk_agg, look_mk, St.effOf, eff, effCall, effBin, effUn, effConv, effPick, effNil, effFold, fold1, effLoad, effStore, effFieldAddr, effField, fieldOf, sliceOf, effIndexAddr, effIndex, effLen, effExtract, effSlice, bnd, effBuild, placesOf, effBuildSlice, effMakeSlice, effAppend, srcOf, fillA, chunk, seg, toD, toDs, put, eqAV, fieldsEq, leafEq, strip, unw, allB, selP_or, selP_and, tis, TyD.agg, AV.cells, AV.cell, allCell, vInt, vBool, vStr, subL_nil, subL_cons, upIds, AV.ids, AV.ids.idsL, AObj.ids, drops, Hp.get_cons, get_nil, retF, resL, one, fz, fz.fzL, List.map_cons, List.map_nil, List.nil_append, List.append_nil, List.cons_append, List.all_cons, List.all_nil, List.length_cons, List.length_nil, List.getElem?_cons_zero, List.getElem?_cons_succ, List.getD_cons_zero, List.getD_cons_succ, List.take_succ_cons, List.take_zero, List.drop_succ_cons, List.drop_zero, List.take_nil, List.drop_nil, List.contains_cons, List.contains_nil, Option.getD_some, Option.getD_none, Option.map_some, Option.map_none, if_true, if_false, true_and, and_true, and_self, or_self, or_false, false_or, false_and, and_false, reduceCtorEq, sel_and, sel_or, decide_eq_true_eq, Bool.and_eq_true, Bool.or_eq_true, Bool.and_true, Bool.true_and, Bool.or_false, Bool.false_or, Bool.true_or, Bool.or_true, Bool.not_true, Bool.not_false, Bool.false_eq_true, implies_true, not_false_eq_true, Nat.reduceLT, Nat.reduceEqDiff, Nat.reduceAdd, Nat.reduceMul, Nat.reduceMod, Nat.reduceLeDiff, Nat.reduceBEq, Nat.zero_add, Nat.add_zero, reduceIte, ↓reduceIte, List.not_mem_nil]
  refine ⟨h1.1, fun _ => h1.1, ?_⟩
  by_cases c : ((!fewS l) = true ∨ (((mapT l).size : Int) == 0) = true) ∨ cut < 0
  · rw [if_pos c]
    try exact Sub.refl _
  rw [if_neg c]
  have hf : fewS l = true := by
    cases h : fewS l with
    | true => rfl
    | false => exact absurd (.inl (.inl (by rw [h]; rfl))) c
  have hz : ¬ ((mapT l).size : Int) = 0 := fun h => c (.inl (.inr (beq_iff_eq.2 h)))
  have hc : 0 ≤ cut := by
    rcases Int.lt_or_le cut 0 with h | h
    · exact absurd (.inr h) c
    · exact h
  have hsz := few_size hok hf
  have hl60 : l.length ≤ 60 := by
    have := hf
    rw [fewS, decide_eq_true_eq] at this
    exact this.2
  have hm0 : 0 ≤ cut.tmod (mapT l).size := Int.tmod_nonneg _ hc
  have hm1 : cut.tmod (mapT l).size < (mapT l).size := Int.tmod_lt_of_pos _ (by omega)
  rw [show Int.toNat 0 = 0 from rfl]
  obtain ⟨k, hk⟩ := Int.eq_ofNat_of_zero_le hm0
  rw [hk, Int.toNat_natCast]
  have hks : ((mapT l).extract 0 k).size ≤ 2420 := by rw [ByteArray.size_extract]; omega
  refine ⟨hz, ⟨by decide, by omega, by omega⟩, by omega, ?_⟩
  cases hr : (readT ((mapT l).extract 0 k)).2 with
  | false =>
    rw [if_pos (by rfl), readT_no hr]
    exact Sub.eq (by rfl)
  | true =>
    rw [if_neg (by decide)]
    obtain ⟨c1, c2⟩ := cuts_plain (m := (readT ((mapT l).extract 0 k)).1) hok rfl (Prod.ext rfl hr)
    generalize (readT ((mapT l).extract 0 k)).1 = m at c1 c2 ⊢
    have e : List.take (((m.length : Nat) : Int).toNat - 0) (List.drop 0 (l.map sgD)) = m.map sgD := by
      rw [Int.toNat_natCast, Nat.sub_zero, List.drop_zero, ← List.map_take, c2]
    rw [e, sgOf_map]
    refine ⟨fun _ => ⟨by decide, by omega, by omega⟩, fun _ => ⟨by omega, rfl, by rw [List.length_map]; omega⟩, Sub.eq ?_⟩
    rw [if_pos (by omega), decide_eq_true rfl]
end Go.Proofs.YthokfhifahlohaaDoor.Eng
