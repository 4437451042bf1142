/- SmapJson: part 15 of 15. -/
import Derived.Test.YtgbialeahdoelaaBSmapJsonn
section
namespace Go.Proofs.Ytgbialeahdoelaa.Eng
open Go Go.Proofs.Ytgbialeahdoelaa.Base
set_option maxRecDepth 100000
set_option linter.unusedSimpArgs false
set_option linter.unusedVariables false
def qv : List Int := [34, 118, 101, 114, 115, 105, 111, 110, 34]
def qs : List Int := [34, 115, 111, 117, 114, 99, 101, 115, 34]
def qn : List Int := [34, 110, 97, 109, 101, 115, 34]
def qm : List Int := [34, 109, 97, 112, 112, 105, 110, 103, 115, 34]
def mapW (Q M : List Int) : List (Int × List Int) := [(1, [123]), (7, qv), (5, [58]), (8, [51]), (6, [44]), (7, qs), (5, [58]), (3, [91]), (7, Q), (4, [93]), (6, [44]), (7, qn), (5, [58]), (3, [91]), (4, [93]), (6, [44]), (7, qm), (5, [58]), (7, M), (2, [125])]
def mapK (f t : Nat → Int) : List Tk := [(1, f 0, t 0), (7, f 1, t 1), (5, f 2, t 2), (8, f 3, t 3), (6, f 4, t 4), (7, f 5, t 5), (5, f 6, t 6), (3, f 7, t 7), (7, f 8, t 8), (4, f 9, t 9), (6, f 10, t 10), (7, f 11, t 11), (5, f 12, t 12), (3, f 13, t 13), (4, f 14, t 14), (6, f 15, t 15), (7, f 16, t 16), (5, f 17, t 17), (7, f 18, t 18), (2, f 19, t 19)]
def txtV (b : List Int) (ts : List Tk) (f : Nat → Int) (n : Nat) : JV := .mk 3 (juF (tkB b ts n)).1 false eS eS [] (f n) 0 []
def mapV (b : List Int) (ts : List Tk) (f : Nat → Int) : JV :=
 .mk 1 [] false eS eS [txtV b ts f 1, .mk 4 [] false s3 s0 [] (f 3) 0 [], txtV b ts f 5, .mk 2 [] false eS eS [txtV b ts f 8] (f 7) (f 9) [], txtV b ts f 11, .mk 2 [] false eS eS [] (f 13) (f 14) [], txtV b ts f 16, txtV b ts f 18] (f 0) (f 19) [f 2, f 4, f 6, f 10, f 12, f 15, f 17]
theorem rVal_map (b : List Int) (f t : Nat → Int) : rVal b (mapK f t) 60 (0, 0, 0) = (mapV b (mapK f t) f, (20, 0, 0)) := by
 kernel_rfl
theorem jpF_map {b : List Int} {f t : Nat → Int} (h : splitF b = (mapK f t, 0, 0)) : jpF b 60 = (mapV b (mapK f t) f, 0, 0) := by
 unfold jpF
 rw [h]
 simp only []
 rw [if_neg (by decide), show (capV 60 0 60).toNat = 60 from rfl, rVal_map]
 rfl
theorem posW_kinds : ∀ (W : List (Int × List Int)) (i : Int), (posW i W).map (·.1) = W.map (·.1)
 | [], _ => rfl
 | (k, w) :: W, i => by rw [posW, List.map_cons, List.map_cons, posW_kinds W]
theorem mapW_good {tq tm : List Int} (h1 : Jstr.Jt tq) (b1 : Bytes tq) (h2 : Jstr.Jt tm) (b2 : Bytes tm) : goodW (mapW (34 :: tq) (34 :: tm)) := by
 have jv : Jstr.Jt ([118, 101, 114, 115, 105, 111, 110] ++ [34]) := jt_chars _ (by decide)
 have js : Jstr.Jt ([115, 111, 117, 114, 99, 101, 115] ++ [34]) := jt_chars _ (by decide)
 have jn : Jstr.Jt ([110, 97, 109, 101, 115] ++ [34]) := jt_chars _ (by decide)
 have jm : Jstr.Jt ([109, 97, 112, 112, 105, 110, 103, 115] ++ [34]) := jt_chars _ (by decide)
 refine ⟨⟨_, _, rfl, rfl⟩, rfl, ⟨_, _, rfl, rfl⟩, tok_text jv (by unfold Bytes; decide), ⟨_, _, rfl, rfl⟩, rfl, ⟨_, _, rfl, rfl⟩, rfl, ⟨_, _, rfl, rfl⟩, rfl, ⟨_, _, rfl, rfl⟩, tok_text js (by unfold Bytes; decide), ⟨_, _, rfl, rfl⟩, rfl, ⟨_, _, rfl, rfl⟩, rfl,
  ⟨_, _, rfl, rfl⟩, tok_text h1 b1, ⟨_, _, rfl, rfl⟩, rfl, ⟨_, _, rfl, rfl⟩, rfl, ⟨_, _, rfl, rfl⟩, tok_text jn (by unfold Bytes; decide), ⟨_, _, rfl, rfl⟩, rfl, ⟨_, _, rfl, rfl⟩, rfl, ⟨_, _, rfl, rfl⟩, rfl, ⟨_, _, rfl, rfl⟩, rfl,
  ⟨_, _, rfl, rfl⟩, tok_text jm (by unfold Bytes; decide), ⟨_, _, rfl, rfl⟩, rfl, ⟨_, _, rfl, rfl⟩, tok_text h2 b2, ⟨_, _, rfl, rfl⟩, rfl, trivial⟩
def posF (W : List (Int × List Int)) (n : Nat) : Int := ((posW 0 W).getD n (0, 0, 0)).2.1
def posT (W : List (Int × List Int)) (n : Nat) : Int := ((posW 0 W).getD n (0, 0, 0)).2.2
theorem posW_map (Q M : List Int) : posW 0 (mapW Q M) = mapK (posF (mapW Q M)) (posT (mapW Q M)) := rfl
theorem tkB_map {Q M : List Int} {n : Nat} {k : Int} {w : List Int} (h : (mapW Q M)[n]? = some (k, w)) : tkB (flatW (mapW Q M)) (posW 0 (mapW Q M)) n = w := by
 obtain ⟨f, h1, h2⟩ := tkB_W (mapW Q M) [] n k w h
 unfold tkB
 rw [List.getD_eq_getElem?_getD]
 have h1 : (posW 0 (mapW Q M))[n]? = some (k, f, f + (w.length : Int)) := h1
 rw [h1]
 exact h2
theorem nums_map3 (Q M : List Int) : numsOk (flatW (mapW Q M)) (posW 0 (mapW Q M)) := by
 intro n hn
 have hk : ((posW 0 (mapW Q M)).map (·.1)).getD n 0 = 8 := by
  rw [List.getD_eq_getElem?_getD, List.getElem?_map]
  rw [List.getD_eq_getElem?_getD] at hn
  cases h : (posW 0 (mapW Q M))[n]? with
  | none => rw [h] at hn; exact absurd hn (by decide)
  | some x => rw [h] at hn; exact hn
 rw [posW_kinds] at hk
 have hk : ([1, 7, 5, 8, 6, 7, 5, 3, 7, 4, 6, 7, 5, 3, 4, 6, 7, 5, 7, 2] : List Int).getD n 0 = 8 := hk
 have h3 : n = 3 := by
  by_cases h20 : n < 20
  ·have : ∀ k : Fin 20, ([1, 7, 5, 8, 6, 7, 5, 3, 7, 4, 6, 7, 5, 3, 4, 6, 7, 5, 7, 2] : List Int).getD k.val 0 = 8 → k.val = 3 := by decide
   exact this ⟨n, h20⟩ hk
  ·rw [List.getD_eq_getElem?_getD, List.getElem?_eq_none (by show 20 ≤ n; omega)] at hk
   exact absurd hk (by decide)
 subst h3
 rw [tkB_map (n := 3) (k := 8) (w := [51]) rfl]
 show strOfNums [51] = s3
 decide +kernel
theorem flat_isU : ∀ (W : List (Int × List Int)), (∀ x ∈ W, Jlex.isU x.2) → Jlex.isU (flatW W)
 | [], _ => Jlex.isU_ascii (fun x hx => by cases hx)
 | x :: W, h => Jlex.isU_append (h x List.mem_cons_self) (flat_isU W fun y hy => h y (List.mem_cons_of_mem _ hy))
theorem isU_chars {w : List Int} (h : ∀ x ∈ w, 0 ≤ x ∧ x < 128) : Jlex.isU w := Jlex.isU_ascii h
theorem map_split {tq tm : List Int} (h1 : Jstr.Jt tq) (b1 : Bytes tq) (u1 : Jlex.isU tq) (h2 : Jstr.Jt tm) (b2 : Bytes tm) (u2 : Jlex.isU tm) (hl : (flatW (mapW (34 :: tq) (34 :: tm))).length ≤ 20000) :
  splitF (flatW (mapW (34 :: tq) (34 :: tm))) = (posW 0 (mapW (34 :: tq) (34 :: tm)), 0, 0) := by
 have hU : Jlex.isU (flatW (mapW (34 :: tq) (34 :: tm))) := flat_isU _ (fun x hx => by
  have hq : Jlex.isU (34 :: tq) := Jlex.isU_append (a := [34]) (isU_chars (by decide)) u1
  have hm : Jlex.isU (34 :: tm) := Jlex.isU_append (a := [34]) (isU_chars (by decide)) u2
  unfold mapW at hx
  simp only [List.mem_cons, List.not_mem_nil, or_false] at hx
  rcases hx with rfl | rfl | rfl | rfl | rfl | rfl | rfl | rfl | rfl | rfl | rfl | rfl | rfl | rfl | rfl | rfl | rfl | rfl | rfl | rfl
  all_goals first | exact hq | exact hm | exact isU_chars (by decide))
 have hv : (vals (flatW (mapW (34 :: tq) (34 :: tm))).length (flatW (mapW (34 :: tq) (34 :: tm)))).2 = true := by
  obtain ⟨rs, h3, h4⟩ := hU
  rw [h4]
  have := vals_enc rs [] (Utf.encAll rs ++ []).length h3 rfl (Nat.le_refl _)
  rw [List.append_nil] at this
  rw [this]; rfl
 exact splitF_ok (by omega) hv (toks_W _ 0 (mapW_good h1 b1 h2 b2))
theorem wrT_flat (nm : ByteArray) (l : List Sg) : sB (wrT nm l) = flatW (mapW (sB (spellS (unitsS nm))) (34 :: (sB (mapT l) ++ [34]))) := by
 unfold wrT
 rw [sB_app, sB_app, sB_app, sB_app]
 have p1 : sB preB = [123] ++ qv ++ [58] ++ [51] ++ [44] ++ qs ++ [58] ++ [91] := by decide +kernel
 have p2 : sB midB = [93] ++ [44] ++ qn ++ [58] ++ [91] ++ [93] ++ [44] ++ qm ++ [58] ++ [34] := by decide +kernel
 have p3 : sB endB = [34] ++ [125] := by decide +kernel
 rw [p1, p2, p3]
 unfold flatW mapW
 simp only [List.flatMap_cons, List.flatMap_nil, List.append_assoc, List.cons_append, List.nil_append, List.append_nil]
theorem mapT_ch (l : List Sg) : ∀ x ∈ sB (mapT l), chI x := fun x hx => by
 unfold sB mapT at hx
 obtain ⟨c, hc, rfl⟩ := List.mem_map.1 hx
 exact mapB_ok l l.length c (by simpa using hc)
theorem mapT_len {l : List Sg} (hf : fewS l = true) (hok : okS l l.length) : (sB (mapT l)).length ≤ 14220 := by
 have := mapB_few hf hok (Nat.le_refl _)
 have h60 := (of_decide_eq_true hf).2
 have e : (sB (mapT l)).length = (mapB l l.length).length := by rw [sB_len, mapT, ba_size]
 rw [e]
 have : 237 * l.length ≤ 237 * 60 := Nat.mul_le_mul_left _ h60
 omega
theorem ch_bytes {w : List Int} (h : ∀ x ∈ w, chI x) : Bytes (w ++ [34]) := fun x hx => by
 rcases List.mem_append.1 hx with hx | hx
 ·have := h x hx; unfold chI at this; omega
 ·rw [List.mem_singleton.1 hx]; decide
theorem ch_isU {w : List Int} (h : ∀ x ∈ w, chI x) : Jlex.isU (w ++ [34]) := isU_chars fun x hx => by
 rcases List.mem_append.1 hx with hx | hx
 ·have := h x hx; unfold chI at this; omega
 ·rw [List.mem_singleton.1 hx]; decide
theorem mapW_len (Q M : List Int) : (flatW (mapW Q M)).length = 49 + Q.length + M.length := by
 have e : flatW (mapW Q M) = ([123] ++ qv ++ [58] ++ [51] ++ [44] ++ qs ++ [58] ++ [91]) ++ (Q ++ (([93] ++ [44] ++ qn ++ [58] ++ [91] ++ [93] ++ [44] ++ qm ++ [58]) ++ (M ++ [125]))) := by
  unfold flatW mapW
  simp only [List.flatMap_cons, List.flatMap_nil, List.append_assoc, List.cons_append, List.nil_append, List.append_nil]
 rw [e]
 generalize hA : [123] ++ qv ++ [58] ++ [51] ++ [44] ++ qs ++ [58] ++ [91] = A
 generalize hB : [93] ++ [44] ++ qn ++ [58] ++ [91] ++ [93] ++ [44] ++ qm ++ [58] = B
 have a1 : A.length = 24 := by rw [← hA]; rfl
 have b1 : B.length = 24 := by rw [← hB]; rfl
 simp only [List.length_append, List.length_cons, List.length_nil]
 omega
theorem jpW {W : List (Int × List Int)} (hk : posW 0 W = mapK (posF W) (posT W)) (hs : splitF (flatW W) = (posW 0 W, 0, 0)) : jpF (flatW W) 60 = (mapV (flatW W) (posW 0 W) (posF W), 0, 0) := by
 have h := hs
 rw [hk] at h
 rw [jpF_map h, ← hk]
theorem numsW {W : List (Int × List Int)} (hs : splitF (flatW W) = (posW 0 W, 0, 0)) (hn : numsOk (flatW W) (posW 0 W)) : numsOk (flatW W) (splitF (flatW W)).1 := by rw [hs]; exact hn
theorem wr_parse {nm : ByteArray} {l : List Sg} (hf : fewS l = true) (hok : okS l l.length) (hn : nm.size ≤ 100) :
  ∃ W : List (Int × List Int), W = mapW (sB (spellS (unitsS nm))) (34 :: (sB (mapT l) ++ [34])) ∧ sB (wrT nm l) = flatW W ∧ numsOk (flatW W) (splitF (flatW W)).1 ∧ jpF (flatW W) 60 = (mapV (flatW W) (posW 0 W) (posF W), 0, 0) := by
 obtain ⟨tq, e1, h1, b1, u1, l1⟩ := quoted_jt nm
 have hm := mapT_ch l
 have hml := mapT_len hf hok
 have hul := unitsS_len nm
 have hlen : (flatW (mapW (34 :: tq) (34 :: (sB (mapT l) ++ [34])))).length ≤ 20000 := by
  rw [mapW_len]
  simp only [List.length_append, List.length_cons, List.length_nil]
  omega
 have hs := map_split h1 b1 u1 (jt_chars _ hm) (ch_bytes hm) (ch_isU hm) hlen
 have hk := posW_map (34 :: tq) (34 :: (sB (mapT l) ++ [34]))
 have hN := nums_map3 (34 :: tq) (34 :: (sB (mapT l) ++ [34]))
 have hw := wrT_flat nm l
 rw [e1] at hw ⊢
 generalize hW : mapW (34 :: tq) (34 :: (sB (mapT l) ++ [34])) = W at hs hk hN hw
 exact ⟨W, rfl, hw, numsW hs hN, jpW hk hs⟩
end Go.Proofs.Ytgbialeahdoelaa.Eng

end

section
namespace Go.Proofs.Ytgbialeahdoelaa.Eng
open Go Go.Proofs.Ytgbialeahdoelaa.Base
set_option maxRecDepth 100000
set_option linter.unusedSimpArgs false
set_option linter.unusedVariables false
def vS : ByteArray := ⟨#[118, 101, 114, 115, 105, 111, 110]⟩
def sS : ByteArray := ⟨#[115, 111, 117, 114, 99, 101, 115]⟩
def nS : ByteArray := ⟨#[110, 97, 109, 101, 115]⟩
def mS : ByteArray := ⟨#[109, 97, 112, 112, 105, 110, 103, 115]⟩
def keysR : List (List Dat) := [[.v (.string vS)], [.v (.string sS)], [.v (.string nS)], [.v (.string mS)]]
theorem uq_lit {s : ByteArray} (h : ∀ x ∈ sB s, chI x) : uq s = (juF (34 :: (sB s ++ [34]))).1 := by
 unfold uq
 rw [(quoted_ch h).2]
theorem juV_bound : ∀ (f : Nat) (u : List Int), Bytes u → (juV f u).length ≤ 2 * u.length
 | 0, _, _ => Nat.zero_le _
 | f + 1, [], _ => Nat.zero_le _
 | f + 1, [_], _ => Nat.zero_le _
 | f + 1, c :: d :: t, hb => by
  have hbt : Bytes t := fun x hx => hb x (by simp [hx])
  have hd := Utf.dec_len hb (fun h => by cases h)
  rw [juV_cons]
  split
  ·split
   ·have := juV_bound f (t.drop 4) (fun x hx => hbt x (List.mem_of_mem_drop hx))
    rw [List.length_drop] at this
    simp only [List.length_cons]; omega
   ·have := juV_bound f t hbt
    simp only [List.length_cons]; omega
  ·have := juV_bound f ((c :: d :: t).drop (Utf.dec (c :: d :: t)).2.1.toNat) (fun x hx => hb x (List.mem_of_mem_drop hx))
   have h2 := pairV_len (Utf.dec (c :: d :: t)).1
   rw [List.length_drop] at this
   rw [List.length_append]
   simp only [List.length_cons] at this ⊢
   omega
theorem juF_len {l : List Int} (hb : Bytes l) : (juF l).1.length ≤ 2 * l.length := by
 unfold juF
 split
 ·exact Nat.zero_le _
 ·split
  ·exact Nat.zero_le _
  ·have := juV_bound l.length (l.drop 1) (fun x hx => hb x (List.mem_of_mem_drop hx))
   rw [List.length_drop] at this
   show (juV l.length (l.drop 1)).length ≤ _
   omega
noncomputable def G24j : Gam := ((((G24.add 13 fun a => F_val (NT.nz.nzL [.s 1] a)).add 14 fun a => F_jp (NT.nz.nzL [.s 1, .k] a)).add 16 fun a => F_unt (NT.nz.nzL [] a)).add 15 fun a => F_same (NT.nz.nzL [.s 1, .s 1] a))
theorem known24j : Known Try.prog G24j := (((known24.addC _ rval_calm).addC _ jp_calm).addC _ unt_calm).addC _ same_calm
theorem G24j_at : (∀ h d a, G24j 7 h d a = calmE (fun a => F_alive (NT.nz.nzL [] a)) h a) ∧ (∀ h d a, G24j 8 h d a = calmE (fun a => F_fewS (NT.nz.nzL [.s 4] a)) h a) ∧ (∀ h d a, G24j 10 h d a = calmE (fun a => F_rmap (NT.nz.nzL [.s 4] a)) h a) ∧ (∀ h d a, G24j 11 h d a = calmE (fun a => F_write (NT.nz.nzL [.k, .s 4] a)) h a) ∧ (∀ h d a, G24j 13 h d a = calmE (fun a => F_val (NT.nz.nzL [.s 1] a)) h a) ∧ (∀ h d a, G24j 14 h d a = calmE (fun a => F_jp (NT.nz.nzL [.s 1, .k] a)) h a) ∧ (∀ h d a, G24j 16 h d a = calmE (fun a => F_unt (NT.nz.nzL [] a)) h a) ∧ (∀ h d a, G24j 15 h d a = calmE (fun a => F_same (NT.nz.nzL [.s 1, .s 1] a)) h a) := ⟨fun _ _ _ => rfl, fun _ _ _ => rfl, fun _ _ _ => rfl, fun _ _ _ => rfl, fun _ _ _ => rfl, fun _ _ _ => rfl, fun _ _ _ => rfl, fun _ _ _ => rfl⟩
set_option maxHeartbeats 4000000 in
theorem SmapJson_body (l : List Sg) (name : ByteArray) (h1 : l.length ≤ maxLen ∧ ∀ x ∈ l, (((Lit.int .i64 x.a).wf = true ∧ (Lit.int .i64 x.b).wf = true) ∧ (Lit.int .i64 x.c).wf = true) ∧ (Lit.int .i64 x.d).wf = true) (h2 : name.size ≤ maxLen) : Body Try.prog G24j (DRun Try.prog G24j) 4 [.d (sgsD l), .d (.v (.string name))] (vBool true) := by
 refine Body.of Try.func4 Try.ntmps4 (by kernel_rfl) rfl rfl rfl ?_
 have nz1 : ∀ xs, (NT.s 1).nz (.d (.sl 1 xs)) = .d (.sl 1 xs) := fun xs => rfl
 by_cases hok : okS l l.length
 ·have hm := mapS_yes hok
  have hw := writeS_yes (nm := name) hok
  by_cases hfn : fewS l = true ∧ name.size ≤ 100
  ·obtain ⟨hf, hn⟩ := hfn
   have hc1 : ((name.size : Int) > 100) = False := eq_false (by omega)
   obtain ⟨W, hW, hS, hN, hJ⟩ := wr_parse hf hok hn
   have hbW : Bytes (flatW W) := by rw [← hS]; exact sB_bytes _
   have k1 : tkB (flatW W) (posW 0 W) 1 = qv := by rw [hW]; exact tkB_map (n := 1) (k := 7) rfl
   have k5 : tkB (flatW W) (posW 0 W) 5 = qs := by rw [hW]; exact tkB_map (n := 5) (k := 7) rfl
   have k8 : tkB (flatW W) (posW 0 W) 8 = sB (spellS (unitsS name)) := by rw [hW]; exact tkB_map (n := 8) (k := 7) rfl
   have k11 : tkB (flatW W) (posW 0 W) 11 = qn := by rw [hW]; exact tkB_map (n := 11) (k := 7) rfl
   have k16 : tkB (flatW W) (posW 0 W) 16 = qm := by rw [hW]; exact tkB_map (n := 16) (k := 7) rfl
   have k18 : tkB (flatW W) (posW 0 W) 18 = 34 :: (sB (mapT l) ++ [34]) := by rw [hW]; exact tkB_map (n := 18) (k := 7) rfl
   simp only [jvD_eq, mapV, txtV, JV.kind, JV.text, JV.neg, JV.dig, JV.exp, JV.items, JV.frm, JV.til, JV.marks, k1, k5, k8, k11, k16, k18, List.map_cons, List.map_nil, sgsD, sgOf_map, hm, hw, hf, hc1, nz1, sB_rows, num_iD, hS, hN, hJ, hbW, jpD, faultD, G24j_at, calmE, F_alive, F_fewS, F_rmap, F_write, F_val, F_jp, AV.flat, AV.flat.flatL, List.length_map, Int.reduceLE, Int.reduceLT, Int.reduceGT, Int.reduceGE, Int.reduceBEq, Int.reduceBNe, Int.reduceEq, Int.reduceToNat, Int.reduceSub, Int.reduceAdd, Int.reduceMul, Int.reducePow, Int.reduceNeg, goTG_val, goTG_new, goTG_up, goTG_none, goG_none, goG_new, goG_up, ne_eq, evK, evH, retHF, DRun_mk, runT_nil, runT_none, runT_guard, goT_val, goT_new, goT_store, goTH_true, goTH_false, evO, keys, Option.toList_some, Option.toList_none, nzL_nil, nzL_cons, nz_k, nz_sl, nz_nil, nz_agg, startL, evC, evV, goE_val, goE_new, goE_store, goH_true, goH_false, goG_val, lk_cons, lk_nil, lk_func, lk_int, lk_bool, lk_string, lk_slice, lk_agg, look_mk, St.effOf, eff, effCall, effBinC, isConst, effBin, effUn, effConv, effPick, effNil, effFold, fold1, effLoad, effStore, effFieldAddr, effField, fieldOf, sliceOf, effIndexAddr, effIndex, effLen, effExtract, effSlice, dats, bnd, effBuild, placesOf, effBuildSlice, effMakeSlice, effAppend, srcOf, fillA, chunk, seg, toD, toDs, put, eqAV, fieldsEq, leafEq, strip, unw, allB, selP_or, selP_and, tis, TyD.agg, AV.cells, AV.cell, allCell, vInt, vBool, vStr, subL_nil, subL_cons, upIds, AV.ids, AV.ids.idsL, AObj.ids, drops, Hp.get_cons, get_nil, retF, resL, one, fz, fz.fzL, List.map_cons, List.map_nil, List.nil_append, List.append_nil, List.cons_append, List.all_cons, List.all_nil, List.length_cons, List.length_nil, List.getElem?_cons_zero, List.getElem?_cons_succ, List.getD_cons_zero, List.getD_cons_succ, List.take_succ_cons, List.take_zero, List.drop_succ_cons, List.drop_zero, List.take_nil, List.drop_nil, List.contains_cons, List.contains_nil, Option.getD_some, Option.getD_none, Option.map_some, Option.map_none, if_true, if_false, true_and, and_true, and_self, or_self, or_false, false_or, false_and, and_false, reduceCtorEq, sel_and, sel_or, decide_eq_true_eq, Bool.and_eq_true, Bool.or_eq_true, Bool.and_true, Bool.true_and, Bool.or_false, Bool.false_or, Bool.true_or, Bool.or_true, Bool.not_true, Bool.not_false, Bool.false_eq_true, implies_true, not_false_eq_true, Nat.reduceLT, Nat.reduceEqDiff, Nat.reduceAdd, Nat.reduceMul, Nat.reduceMod, Nat.reduceLeDiff, Nat.reduceBEq, Nat.zero_add, Nat.add_zero, reduceIte, ↓reduceIte, List.not_mem_nil]
   have u1 := uq_lit (s := vS) (by decide +kernel)
   have u2 := uq_lit (s := sS) (by decide +kernel)
   have u3 := uq_lit (s := nS) (by decide +kernel)
   have u4 := uq_lit (s := mS) (by decide +kernel)
   rw [show (34 :: (sB vS ++ [34]) : List Int) = qv by decide +kernel] at u1
   rw [show (34 :: (sB sS ++ [34]) : List Int) = qs by decide +kernel] at u2
   rw [show (34 :: (sB nS ++ [34]) : List Int) = qn by decide +kernel] at u3
   rw [show (34 :: (sB mS ++ [34]) : List Int) = qm by decide +kernel] at u4
   simp only [vS, sS, nS, mS] at u1 u2 u3 u4
   have um := uq_lit (mapT_ch l)
   have un : (juF (sB (spellS (unitsS name)))).1 = uq name := rfl
   have pqn : plainEq Try.prog 34 = true := by kernel_rfl
   have hul := unitsS_len name
   have hss := spellS_size (unitsS name)
   have b8 := juF_len (sB_bytes (spellS (unitsS name)))
   rw [sB_len] at b8
   have b1 := juF_len (l := qv) (by unfold Bytes; decide)
   have b2 := juF_len (l := qs) (by unfold Bytes; decide)
   have b3 := juF_len (l := qn) (by unfold Bytes; decide)
   have b4 := juF_len (l := qm) (by unfold Bytes; decide)
   have hml := mapT_len hf hok
   have b18 := juF_len (l := 34 :: (sB (mapT l) ++ [34])) (fun x hx => by
    rcases List.mem_cons.1 hx with rfl | hx
    ·decide
    ·exact ch_bytes (mapT_ch l) x hx)
   have hl60 := (of_decide_eq_true hf).2
   have hms : (mapT l).size ≤ 14220 := by rw [← sB_len]; exact hml
   refine ⟨h1.1, fun _ => h1.1, ⟨sB_bytes _, by rw [sB_len]; omega⟩, ⟨by omega, by omega⟩, ?_⟩
   rw [if_neg (by decide)]
   have w0 : IntKind.i64.wrap 0 = 0 := rfl
   have w1 : IntKind.i64.wrap 1 = 1 := rfl
   have w2 : IntKind.i64.wrap 2 = 2 := rfl
   have w3 : IntKind.i64.wrap 3 = 3 := rfl
   have w4 : IntKind.i64.wrap 4 = 4 := rfl
   have w6 : IntKind.i64.wrap 6 = 6 := rfl
   have w7 : IntKind.i64.wrap 7 = 7 := rfl
   refine wpc_loop (fun j : Nat => ⟨150, [100, 101], [(1, vStr name), (6, vStr (mapT l)), (9, vBool (vals (sB name).length (sB name)).2), (12, .ptr 100 0), (14, .row 101 4), (15, vInt .i64 j)], [(100, some (.cells 37 ((jvD (mapV (flatW W) (posW 0 W) (posF W))).map .d))), (101, some (.row 9 1 keysR))]⟩) (fun j => j ≤ 4) (fun j => 4 - j) 0 (by omega) ?_ ?_
   ·refine Le.of (fun o => if o = 100 then 12 else 76) [] ?_
    simp only [jvD_eq, mapV, txtV, JV.kind, JV.text, JV.neg, JV.dig, JV.exp, JV.items, JV.frm, JV.til, JV.marks, k1, k5, k8, k11, k16, k18, List.map_cons, List.map_nil, keysR, vS, sS, nS, mS, Mt_tup, Mt_agg, Mt_fn, forall_eq, forall_eq_or_imp, ne_eq, List.all_cons, List.all_nil, pr, Nat.reduceLeDiff, slR_nil, slR_cons, hpR_nil, hpR_cells, hpR_row, idsR_nil, idsR_cons, mtE_v, mtE_sl, mtE_nil, mtE_refl, mtE_row, mtE_born, mtE_ptr, mtE_rp, mtE_agg, mtE_tup, mtE_fn, mtE_ep, MtL_nil, MtL_cons, Mt_v, Mt_sl, Mt_nil, Mt_refl, Mt_row, Mt_born, Mt_ptr, MtO_cells, MtO_row, liveIds, distinct, Dat.v.injEq, Dat.sl.injEq, Value.int.injEq, Value.bool.injEq, Value.string.injEq, lk_cons, lk_nil, subL_nil, subL_cons, upIds, AV.ids, AV.ids.idsL, AObj.ids, Hp.get_cons, get_nil, allCell, AV.cell, vInt, vBool, vStr, id, true_and, and_true, and_self, List.append_nil, List.nil_append, List.not_mem_nil, List.mem_cons, or_false, false_or, or_self, not_true_eq_false, not_false_eq_true, false_imp_iff, false_implies, List.map_nil, not_false_eq_true, List.contains_cons, List.contains_nil, Bool.or_false, Bool.false_or, Bool.true_or, Bool.or_true, Bool.and_true, Bool.true_and, implies_true, if_true, if_false, reduceCtorEq, Nat.reduceEqDiff, Nat.reduceBEq, Nat.reduceAdd, reduceIte, ↓reduceIte]
    exact ⟨rfl, rfl⟩
   ·intro j hj
    obtain rfl | rfl | rfl | rfl | rfl : j = 0 ∨ j = 1 ∨ j = 2 ∨ j = 3 ∨ j = 4 := by omega
    ·simp only [jvD_eq, mapV, txtV, JV.kind, JV.text, JV.neg, JV.dig, JV.exp, JV.items, JV.frm, JV.til, JV.marks, k1, k5, k8, k11, k16, k18, List.map_cons, List.map_nil, sgsD, sgOf_map, hm, hw, hf, hc1, u1, u2, u3, u4, um, un, pqn, keysR, F_unt, F_same, intsD, Int.ofNat_zero, Int.cast_ofNat_Int, decide_true, vS, sS, nS, mS, s3, s0, beq_self_eq_true, nz1, sB_rows, num_iD, hS, hN, hJ, hbW, jpD, faultD, G24j_at, calmE, F_alive, F_fewS, F_rmap, F_write, F_val, F_jp, AV.flat, AV.flat.flatL, List.length_map, Int.ofNat_eq_natCast, w0, w1, w2, w3, w4, w6, w7, Int.reduceLE, Int.reduceLT, Int.reduceGT, Int.reduceGE, Int.reduceBEq, Int.reduceBNe, Int.reduceEq, Int.reduceToNat, Int.reduceSub, Int.reduceAdd, Int.reduceMul, Int.reducePow, Int.reduceNeg, goTG_val, goTG_new, goTG_up, goTG_none, goG_none, goG_new, goG_up, ne_eq, evK, evH, retHF, DRun_mk, runT_nil, runT_none, runT_guard, goT_val, goT_new, goT_store, goTH_true, goTH_false, evO, keys, Option.toList_some, Option.toList_none, nzL_nil, nzL_cons, nz_k, nz_sl, nz_nil, nz_agg, startL, evC, evV, goE_val, goE_new, goE_store, goH_true, goH_false, goG_val, lk_cons, lk_nil, lk_func, lk_int, lk_bool, lk_string, lk_slice, lk_agg, look_mk, St.effOf, eff, effCall, effBinC, isConst, effBin, effUn, effConv, effPick, effNil, effFold, fold1, effLoad, effStore, effFieldAddr, effField, fieldOf, sliceOf, effIndexAddr, effIndex, effLen, effExtract, effSlice, dats, bnd, effBuild, placesOf, effBuildSlice, effMakeSlice, effAppend, srcOf, fillA, chunk, seg, toD, toDs, put, eqAV, fieldsEq, leafEq, strip, unw, allB, selP_or, selP_and, tis, TyD.agg, AV.cells, AV.cell, allCell, vInt, vBool, vStr, subL_nil, subL_cons, upIds, AV.ids, AV.ids.idsL, AObj.ids, drops, Hp.get_cons, get_nil, retF, resL, one, fz, fz.fzL, List.map_cons, List.map_nil, List.nil_append, List.append_nil, List.cons_append, List.all_cons, List.all_nil, List.length_cons, List.length_nil, List.getElem?_cons_zero, List.getElem?_cons_succ, List.getD_cons_zero, List.getD_cons_succ, List.take_succ_cons, List.take_zero, List.drop_succ_cons, List.drop_zero, List.take_nil, List.drop_nil, List.contains_cons, List.contains_nil, Option.getD_some, Option.getD_none, Option.map_some, Option.map_none, if_true, if_false, true_and, and_true, and_self, or_self, or_false, false_or, false_and, and_false, reduceCtorEq, sel_and, sel_or, decide_eq_true_eq, Bool.and_eq_true, Bool.or_eq_true, Bool.and_true, Bool.true_and, Bool.or_false, Bool.false_or, Bool.true_or, Bool.or_true, Bool.not_true, Bool.not_false, Bool.false_eq_true, implies_true, not_false_eq_true, Nat.reduceLT, Nat.reduceEqDiff, Nat.reduceAdd, Nat.reduceMul, Nat.reduceMod, Nat.reduceLeDiff, Nat.reduceBEq, Nat.zero_add, Nat.add_zero, reduceIte, ↓reduceIte, List.not_mem_nil]
     have hb : (juF qv).1.length ≤ 1000000000 := by
      have : (juF qv).1.length ≤ 2 * qv.length := b1
      rw [show qv.length = 9 from rfl] at this
      omega
     refine ⟨by decide, hb, by kernel_rfl, 1, by omega, by omega, Le.of id [] ?_⟩
     simp only [jvD_eq, mapV, txtV, JV.kind, JV.text, JV.neg, JV.dig, JV.exp, JV.items, JV.frm, JV.til, JV.marks, k1, k5, k8, k11, k16, k18, un, um, List.map_cons, List.map_nil, keysR, vS, sS, nS, mS, s3, s0, id, Mt_tup, Mt_agg, Mt_fn, forall_eq, forall_eq_or_imp, ne_eq, List.all_cons, List.all_nil, pr, Nat.reduceLeDiff, slR_nil, slR_cons, hpR_nil, hpR_cells, hpR_row, idsR_nil, idsR_cons, mtE_v, mtE_sl, mtE_nil, mtE_refl, mtE_row, mtE_born, mtE_ptr, mtE_rp, mtE_agg, mtE_tup, mtE_fn, mtE_ep, MtL_nil, MtL_cons, Mt_v, Mt_sl, Mt_nil, Mt_refl, Mt_row, Mt_born, Mt_ptr, MtO_cells, MtO_row, liveIds, distinct, Dat.v.injEq, Dat.sl.injEq, Value.int.injEq, Value.bool.injEq, Value.string.injEq, lk_cons, lk_nil, subL_nil, subL_cons, upIds, AV.ids, AV.ids.idsL, AObj.ids, Hp.get_cons, get_nil, allCell, AV.cell, vInt, vBool, vStr, id, true_and, and_true, and_self, List.append_nil, List.nil_append, List.not_mem_nil, List.mem_cons, or_false, false_or, or_self, not_true_eq_false, not_false_eq_true, false_imp_iff, false_implies, List.map_nil, not_false_eq_true, List.contains_cons, List.contains_nil, Bool.or_false, Bool.false_or, Bool.true_or, Bool.or_true, Bool.and_true, Bool.true_and, implies_true, if_true, if_false, reduceCtorEq, Nat.reduceEqDiff, Nat.reduceBEq, Nat.reduceAdd, reduceIte, ↓reduceIte]
     exact ⟨rfl, rfl⟩
    ·simp only [jvD_eq, mapV, txtV, JV.kind, JV.text, JV.neg, JV.dig, JV.exp, JV.items, JV.frm, JV.til, JV.marks, k1, k5, k8, k11, k16, k18, List.map_cons, List.map_nil, sgsD, sgOf_map, hm, hw, hf, hc1, u1, u2, u3, u4, um, un, pqn, keysR, F_unt, F_same, intsD, Int.ofNat_zero, Int.cast_ofNat_Int, decide_true, vS, sS, nS, mS, s3, s0, beq_self_eq_true, nz1, sB_rows, num_iD, hS, hN, hJ, hbW, jpD, faultD, G24j_at, calmE, F_alive, F_fewS, F_rmap, F_write, F_val, F_jp, AV.flat, AV.flat.flatL, List.length_map, Int.ofNat_eq_natCast, w0, w1, w2, w3, w4, w6, w7, Int.reduceLE, Int.reduceLT, Int.reduceGT, Int.reduceGE, Int.reduceBEq, Int.reduceBNe, Int.reduceEq, Int.reduceToNat, Int.reduceSub, Int.reduceAdd, Int.reduceMul, Int.reducePow, Int.reduceNeg, goTG_val, goTG_new, goTG_up, goTG_none, goG_none, goG_new, goG_up, ne_eq, evK, evH, retHF, DRun_mk, runT_nil, runT_none, runT_guard, goT_val, goT_new, goT_store, goTH_true, goTH_false, evO, keys, Option.toList_some, Option.toList_none, nzL_nil, nzL_cons, nz_k, nz_sl, nz_nil, nz_agg, startL, evC, evV, goE_val, goE_new, goE_store, goH_true, goH_false, goG_val, lk_cons, lk_nil, lk_func, lk_int, lk_bool, lk_string, lk_slice, lk_agg, look_mk, St.effOf, eff, effCall, effBinC, isConst, effBin, effUn, effConv, effPick, effNil, effFold, fold1, effLoad, effStore, effFieldAddr, effField, fieldOf, sliceOf, effIndexAddr, effIndex, effLen, effExtract, effSlice, dats, bnd, effBuild, placesOf, effBuildSlice, effMakeSlice, effAppend, srcOf, fillA, chunk, seg, toD, toDs, put, eqAV, fieldsEq, leafEq, strip, unw, allB, selP_or, selP_and, tis, TyD.agg, AV.cells, AV.cell, allCell, vInt, vBool, vStr, subL_nil, subL_cons, upIds, AV.ids, AV.ids.idsL, AObj.ids, drops, Hp.get_cons, get_nil, retF, resL, one, fz, fz.fzL, List.map_cons, List.map_nil, List.nil_append, List.append_nil, List.cons_append, List.all_cons, List.all_nil, List.length_cons, List.length_nil, List.getElem?_cons_zero, List.getElem?_cons_succ, List.getD_cons_zero, List.getD_cons_succ, List.take_succ_cons, List.take_zero, List.drop_succ_cons, List.drop_zero, List.take_nil, List.drop_nil, List.contains_cons, List.contains_nil, Option.getD_some, Option.getD_none, Option.map_some, Option.map_none, if_true, if_false, true_and, and_true, and_self, or_self, or_false, false_or, false_and, and_false, reduceCtorEq, sel_and, sel_or, decide_eq_true_eq, Bool.and_eq_true, Bool.or_eq_true, Bool.and_true, Bool.true_and, Bool.or_false, Bool.false_or, Bool.true_or, Bool.or_true, Bool.not_true, Bool.not_false, Bool.false_eq_true, implies_true, not_false_eq_true, Nat.reduceLT, Nat.reduceEqDiff, Nat.reduceAdd, Nat.reduceMul, Nat.reduceMod, Nat.reduceLeDiff, Nat.reduceBEq, Nat.zero_add, Nat.add_zero, reduceIte, ↓reduceIte, List.not_mem_nil]
     have hb : (juF qs).1.length ≤ 1000000000 := by
      have : (juF qs).1.length ≤ 2 * qs.length := b2
      rw [show qs.length = 9 from rfl] at this
      omega
     refine ⟨by decide, hb, by kernel_rfl, 2, by omega, by omega, Le.of id [] ?_⟩
     simp only [jvD_eq, mapV, txtV, JV.kind, JV.text, JV.neg, JV.dig, JV.exp, JV.items, JV.frm, JV.til, JV.marks, k1, k5, k8, k11, k16, k18, un, um, List.map_cons, List.map_nil, keysR, vS, sS, nS, mS, s3, s0, id, Mt_tup, Mt_agg, Mt_fn, forall_eq, forall_eq_or_imp, ne_eq, List.all_cons, List.all_nil, pr, Nat.reduceLeDiff, slR_nil, slR_cons, hpR_nil, hpR_cells, hpR_row, idsR_nil, idsR_cons, mtE_v, mtE_sl, mtE_nil, mtE_refl, mtE_row, mtE_born, mtE_ptr, mtE_rp, mtE_agg, mtE_tup, mtE_fn, mtE_ep, MtL_nil, MtL_cons, Mt_v, Mt_sl, Mt_nil, Mt_refl, Mt_row, Mt_born, Mt_ptr, MtO_cells, MtO_row, liveIds, distinct, Dat.v.injEq, Dat.sl.injEq, Value.int.injEq, Value.bool.injEq, Value.string.injEq, lk_cons, lk_nil, subL_nil, subL_cons, upIds, AV.ids, AV.ids.idsL, AObj.ids, Hp.get_cons, get_nil, allCell, AV.cell, vInt, vBool, vStr, id, true_and, and_true, and_self, List.append_nil, List.nil_append, List.not_mem_nil, List.mem_cons, or_false, false_or, or_self, not_true_eq_false, not_false_eq_true, false_imp_iff, false_implies, List.map_nil, not_false_eq_true, List.contains_cons, List.contains_nil, Bool.or_false, Bool.false_or, Bool.true_or, Bool.or_true, Bool.and_true, Bool.true_and, implies_true, if_true, if_false, reduceCtorEq, Nat.reduceEqDiff, Nat.reduceBEq, Nat.reduceAdd, reduceIte, ↓reduceIte]
     exact ⟨rfl, rfl⟩
    ·simp only [jvD_eq, mapV, txtV, JV.kind, JV.text, JV.neg, JV.dig, JV.exp, JV.items, JV.frm, JV.til, JV.marks, k1, k5, k8, k11, k16, k18, List.map_cons, List.map_nil, sgsD, sgOf_map, hm, hw, hf, hc1, u1, u2, u3, u4, um, un, pqn, keysR, F_unt, F_same, intsD, Int.ofNat_zero, Int.cast_ofNat_Int, decide_true, vS, sS, nS, mS, s3, s0, beq_self_eq_true, nz1, sB_rows, num_iD, hS, hN, hJ, hbW, jpD, faultD, G24j_at, calmE, F_alive, F_fewS, F_rmap, F_write, F_val, F_jp, AV.flat, AV.flat.flatL, List.length_map, Int.ofNat_eq_natCast, w0, w1, w2, w3, w4, w6, w7, Int.reduceLE, Int.reduceLT, Int.reduceGT, Int.reduceGE, Int.reduceBEq, Int.reduceBNe, Int.reduceEq, Int.reduceToNat, Int.reduceSub, Int.reduceAdd, Int.reduceMul, Int.reducePow, Int.reduceNeg, goTG_val, goTG_new, goTG_up, goTG_none, goG_none, goG_new, goG_up, ne_eq, evK, evH, retHF, DRun_mk, runT_nil, runT_none, runT_guard, goT_val, goT_new, goT_store, goTH_true, goTH_false, evO, keys, Option.toList_some, Option.toList_none, nzL_nil, nzL_cons, nz_k, nz_sl, nz_nil, nz_agg, startL, evC, evV, goE_val, goE_new, goE_store, goH_true, goH_false, goG_val, lk_cons, lk_nil, lk_func, lk_int, lk_bool, lk_string, lk_slice, lk_agg, look_mk, St.effOf, eff, effCall, effBinC, isConst, effBin, effUn, effConv, effPick, effNil, effFold, fold1, effLoad, effStore, effFieldAddr, effField, fieldOf, sliceOf, effIndexAddr, effIndex, effLen, effExtract, effSlice, dats, bnd, effBuild, placesOf, effBuildSlice, effMakeSlice, effAppend, srcOf, fillA, chunk, seg, toD, toDs, put, eqAV, fieldsEq, leafEq, strip, unw, allB, selP_or, selP_and, tis, TyD.agg, AV.cells, AV.cell, allCell, vInt, vBool, vStr, subL_nil, subL_cons, upIds, AV.ids, AV.ids.idsL, AObj.ids, drops, Hp.get_cons, get_nil, retF, resL, one, fz, fz.fzL, List.map_cons, List.map_nil, List.nil_append, List.append_nil, List.cons_append, List.all_cons, List.all_nil, List.length_cons, List.length_nil, List.getElem?_cons_zero, List.getElem?_cons_succ, List.getD_cons_zero, List.getD_cons_succ, List.take_succ_cons, List.take_zero, List.drop_succ_cons, List.drop_zero, List.take_nil, List.drop_nil, List.contains_cons, List.contains_nil, Option.getD_some, Option.getD_none, Option.map_some, Option.map_none, if_true, if_false, true_and, and_true, and_self, or_self, or_false, false_or, false_and, and_false, reduceCtorEq, sel_and, sel_or, decide_eq_true_eq, Bool.and_eq_true, Bool.or_eq_true, Bool.and_true, Bool.true_and, Bool.or_false, Bool.false_or, Bool.true_or, Bool.or_true, Bool.not_true, Bool.not_false, Bool.false_eq_true, implies_true, not_false_eq_true, Nat.reduceLT, Nat.reduceEqDiff, Nat.reduceAdd, Nat.reduceMul, Nat.reduceMod, Nat.reduceLeDiff, Nat.reduceBEq, Nat.zero_add, Nat.add_zero, reduceIte, ↓reduceIte, List.not_mem_nil]
     have hb : (juF qn).1.length ≤ 1000000000 := by
      have : (juF qn).1.length ≤ 2 * qn.length := b3
      rw [show qn.length = 7 from rfl] at this
      omega
     refine ⟨by decide, hb, by kernel_rfl, 3, by omega, by omega, Le.of id [] ?_⟩
     simp only [jvD_eq, mapV, txtV, JV.kind, JV.text, JV.neg, JV.dig, JV.exp, JV.items, JV.frm, JV.til, JV.marks, k1, k5, k8, k11, k16, k18, un, um, List.map_cons, List.map_nil, keysR, vS, sS, nS, mS, s3, s0, id, Mt_tup, Mt_agg, Mt_fn, forall_eq, forall_eq_or_imp, ne_eq, List.all_cons, List.all_nil, pr, Nat.reduceLeDiff, slR_nil, slR_cons, hpR_nil, hpR_cells, hpR_row, idsR_nil, idsR_cons, mtE_v, mtE_sl, mtE_nil, mtE_refl, mtE_row, mtE_born, mtE_ptr, mtE_rp, mtE_agg, mtE_tup, mtE_fn, mtE_ep, MtL_nil, MtL_cons, Mt_v, Mt_sl, Mt_nil, Mt_refl, Mt_row, Mt_born, Mt_ptr, MtO_cells, MtO_row, liveIds, distinct, Dat.v.injEq, Dat.sl.injEq, Value.int.injEq, Value.bool.injEq, Value.string.injEq, lk_cons, lk_nil, subL_nil, subL_cons, upIds, AV.ids, AV.ids.idsL, AObj.ids, Hp.get_cons, get_nil, allCell, AV.cell, vInt, vBool, vStr, id, true_and, and_true, and_self, List.append_nil, List.nil_append, List.not_mem_nil, List.mem_cons, or_false, false_or, or_self, not_true_eq_false, not_false_eq_true, false_imp_iff, false_implies, List.map_nil, not_false_eq_true, List.contains_cons, List.contains_nil, Bool.or_false, Bool.false_or, Bool.true_or, Bool.or_true, Bool.and_true, Bool.true_and, implies_true, if_true, if_false, reduceCtorEq, Nat.reduceEqDiff, Nat.reduceBEq, Nat.reduceAdd, reduceIte, ↓reduceIte]
     exact ⟨rfl, rfl⟩
    ·simp only [jvD_eq, mapV, txtV, JV.kind, JV.text, JV.neg, JV.dig, JV.exp, JV.items, JV.frm, JV.til, JV.marks, k1, k5, k8, k11, k16, k18, List.map_cons, List.map_nil, sgsD, sgOf_map, hm, hw, hf, hc1, u1, u2, u3, u4, um, un, pqn, keysR, F_unt, F_same, intsD, Int.ofNat_zero, Int.cast_ofNat_Int, decide_true, vS, sS, nS, mS, s3, s0, beq_self_eq_true, nz1, sB_rows, num_iD, hS, hN, hJ, hbW, jpD, faultD, G24j_at, calmE, F_alive, F_fewS, F_rmap, F_write, F_val, F_jp, AV.flat, AV.flat.flatL, List.length_map, Int.ofNat_eq_natCast, w0, w1, w2, w3, w4, w6, w7, Int.reduceLE, Int.reduceLT, Int.reduceGT, Int.reduceGE, Int.reduceBEq, Int.reduceBNe, Int.reduceEq, Int.reduceToNat, Int.reduceSub, Int.reduceAdd, Int.reduceMul, Int.reducePow, Int.reduceNeg, goTG_val, goTG_new, goTG_up, goTG_none, goG_none, goG_new, goG_up, ne_eq, evK, evH, retHF, DRun_mk, runT_nil, runT_none, runT_guard, goT_val, goT_new, goT_store, goTH_true, goTH_false, evO, keys, Option.toList_some, Option.toList_none, nzL_nil, nzL_cons, nz_k, nz_sl, nz_nil, nz_agg, startL, evC, evV, goE_val, goE_new, goE_store, goH_true, goH_false, goG_val, lk_cons, lk_nil, lk_func, lk_int, lk_bool, lk_string, lk_slice, lk_agg, look_mk, St.effOf, eff, effCall, effBinC, isConst, effBin, effUn, effConv, effPick, effNil, effFold, fold1, effLoad, effStore, effFieldAddr, effField, fieldOf, sliceOf, effIndexAddr, effIndex, effLen, effExtract, effSlice, dats, bnd, effBuild, placesOf, effBuildSlice, effMakeSlice, effAppend, srcOf, fillA, chunk, seg, toD, toDs, put, eqAV, fieldsEq, leafEq, strip, unw, allB, selP_or, selP_and, tis, TyD.agg, AV.cells, AV.cell, allCell, vInt, vBool, vStr, subL_nil, subL_cons, upIds, AV.ids, AV.ids.idsL, AObj.ids, drops, Hp.get_cons, get_nil, retF, resL, one, fz, fz.fzL, List.map_cons, List.map_nil, List.nil_append, List.append_nil, List.cons_append, List.all_cons, List.all_nil, List.length_cons, List.length_nil, List.getElem?_cons_zero, List.getElem?_cons_succ, List.getD_cons_zero, List.getD_cons_succ, List.take_succ_cons, List.take_zero, List.drop_succ_cons, List.drop_zero, List.take_nil, List.drop_nil, List.contains_cons, List.contains_nil, Option.getD_some, Option.getD_none, Option.map_some, Option.map_none, if_true, if_false, true_and, and_true, and_self, or_self, or_false, false_or, false_and, and_false, reduceCtorEq, sel_and, sel_or, decide_eq_true_eq, Bool.and_eq_true, Bool.or_eq_true, Bool.and_true, Bool.true_and, Bool.or_false, Bool.false_or, Bool.true_or, Bool.or_true, Bool.not_true, Bool.not_false, Bool.false_eq_true, implies_true, not_false_eq_true, Nat.reduceLT, Nat.reduceEqDiff, Nat.reduceAdd, Nat.reduceMul, Nat.reduceMod, Nat.reduceLeDiff, Nat.reduceBEq, Nat.zero_add, Nat.add_zero, reduceIte, ↓reduceIte, List.not_mem_nil]
     have hb : (juF qm).1.length ≤ 1000000000 := by
      have : (juF qm).1.length ≤ 2 * qm.length := b4
      rw [show qm.length = 10 from rfl] at this
      omega
     refine ⟨by decide, hb, by kernel_rfl, 4, by omega, by omega, Le.of id [] ?_⟩
     simp only [jvD_eq, mapV, txtV, JV.kind, JV.text, JV.neg, JV.dig, JV.exp, JV.items, JV.frm, JV.til, JV.marks, k1, k5, k8, k11, k16, k18, un, um, List.map_cons, List.map_nil, keysR, vS, sS, nS, mS, s3, s0, id, Mt_tup, Mt_agg, Mt_fn, forall_eq, forall_eq_or_imp, ne_eq, List.all_cons, List.all_nil, pr, Nat.reduceLeDiff, slR_nil, slR_cons, hpR_nil, hpR_cells, hpR_row, idsR_nil, idsR_cons, mtE_v, mtE_sl, mtE_nil, mtE_refl, mtE_row, mtE_born, mtE_ptr, mtE_rp, mtE_agg, mtE_tup, mtE_fn, mtE_ep, MtL_nil, MtL_cons, Mt_v, Mt_sl, Mt_nil, Mt_refl, Mt_row, Mt_born, Mt_ptr, MtO_cells, MtO_row, liveIds, distinct, Dat.v.injEq, Dat.sl.injEq, Value.int.injEq, Value.bool.injEq, Value.string.injEq, lk_cons, lk_nil, subL_nil, subL_cons, upIds, AV.ids, AV.ids.idsL, AObj.ids, Hp.get_cons, get_nil, allCell, AV.cell, vInt, vBool, vStr, id, true_and, and_true, and_self, List.append_nil, List.nil_append, List.not_mem_nil, List.mem_cons, or_false, false_or, or_self, not_true_eq_false, not_false_eq_true, false_imp_iff, false_implies, List.map_nil, not_false_eq_true, List.contains_cons, List.contains_nil, Bool.or_false, Bool.false_or, Bool.true_or, Bool.or_true, Bool.and_true, Bool.true_and, implies_true, if_true, if_false, reduceCtorEq, Nat.reduceEqDiff, Nat.reduceBEq, Nat.reduceAdd, reduceIte, ↓reduceIte]
     exact ⟨rfl, rfl⟩
    ·simp only [jvD_eq, mapV, txtV, JV.kind, JV.text, JV.neg, JV.dig, JV.exp, JV.items, JV.frm, JV.til, JV.marks, k1, k5, k8, k11, k16, k18, List.map_cons, List.map_nil, sgsD, sgOf_map, hm, hw, hf, hc1, u1, u2, u3, u4, um, un, pqn, keysR, F_unt, F_same, intsD, Int.ofNat_zero, Int.cast_ofNat_Int, decide_true, vS, sS, nS, mS, s3, s0, beq_self_eq_true, nz1, sB_rows, num_iD, hS, hN, hJ, hbW, jpD, faultD, G24j_at, calmE, F_alive, F_fewS, F_rmap, F_write, F_val, F_jp, AV.flat, AV.flat.flatL, List.length_map, Int.ofNat_eq_natCast, w0, w1, w2, w3, w4, w6, w7, Int.reduceLE, Int.reduceLT, Int.reduceGT, Int.reduceGE, Int.reduceBEq, Int.reduceBNe, Int.reduceEq, Int.reduceToNat, Int.reduceSub, Int.reduceAdd, Int.reduceMul, Int.reducePow, Int.reduceNeg, goTG_val, goTG_new, goTG_up, goTG_none, goG_none, goG_new, goG_up, ne_eq, evK, evH, retHF, DRun_mk, runT_nil, runT_none, runT_guard, goT_val, goT_new, goT_store, goTH_true, goTH_false, evO, keys, Option.toList_some, Option.toList_none, nzL_nil, nzL_cons, nz_k, nz_sl, nz_nil, nz_agg, startL, evC, evV, goE_val, goE_new, goE_store, goH_true, goH_false, goG_val, lk_cons, lk_nil, lk_func, lk_int, lk_bool, lk_string, lk_slice, lk_agg, look_mk, St.effOf, eff, effCall, effBinC, isConst, effBin, effUn, effConv, effPick, effNil, effFold, fold1, effLoad, effStore, effFieldAddr, effField, fieldOf, sliceOf, effIndexAddr, effIndex, effLen, effExtract, effSlice, dats, bnd, effBuild, placesOf, effBuildSlice, effMakeSlice, effAppend, srcOf, fillA, chunk, seg, toD, toDs, put, eqAV, fieldsEq, leafEq, strip, unw, allB, selP_or, selP_and, tis, TyD.agg, AV.cells, AV.cell, allCell, vInt, vBool, vStr, subL_nil, subL_cons, upIds, AV.ids, AV.ids.idsL, AObj.ids, drops, Hp.get_cons, get_nil, retF, resL, one, fz, fz.fzL, List.map_cons, List.map_nil, List.nil_append, List.append_nil, List.cons_append, List.all_cons, List.all_nil, List.length_cons, List.length_nil, List.getElem?_cons_zero, List.getElem?_cons_succ, List.getD_cons_zero, List.getD_cons_succ, List.take_succ_cons, List.take_zero, List.drop_succ_cons, List.drop_zero, List.take_nil, List.drop_nil, List.contains_cons, List.contains_nil, Option.getD_some, Option.getD_none, Option.map_some, Option.map_none, if_true, if_false, true_and, and_true, and_self, or_self, or_false, false_or, false_and, and_false, reduceCtorEq, sel_and, sel_or, decide_eq_true_eq, Bool.and_eq_true, Bool.or_eq_true, Bool.and_true, Bool.true_and, Bool.or_false, Bool.false_or, Bool.true_or, Bool.or_true, Bool.not_true, Bool.not_false, Bool.false_eq_true, implies_true, not_false_eq_true, Nat.reduceLT, Nat.reduceEqDiff, Nat.reduceAdd, Nat.reduceMul, Nat.reduceMod, Nat.reduceLeDiff, Nat.reduceBEq, Nat.zero_add, Nat.add_zero, reduceIte, ↓reduceIte, List.not_mem_nil]
     have hbu : (uq name).length ≤ 1000000000 := by
      rw [← un]
      omega
     have hbm : (juF (34 :: (sB (mapT l) ++ [34]))).1.length ≤ 1000000000 := by
      simp only [List.length_append, List.length_cons, List.length_nil] at b18
      omega
     refine ⟨fun _ => by omega, fun _ => hbu, fun _ => by omega, fun _ => hbm, by kernel_rfl, Sub.refl _⟩
  ·simp only [sgsD, sgOf_map, hm, hw, G24j_at, calmE, F_alive, F_fewS, F_rmap, F_write, AV.flat, AV.flat.flatL, List.length_map, goTG_val, goTG_new, goTG_up, goTG_none, goG_none, goG_new, goG_up, ne_eq, evK, evH, retHF, DRun_mk, runT_nil, runT_none, runT_guard, goT_val, goT_new, goT_store, goTH_true, goTH_false, evO, keys, Option.toList_some, Option.toList_none, nzL_nil, nzL_cons, nz_k, nz_sl, nz_nil, nz_agg, startL, evC, evV, goE_val, goE_new, goE_store, goH_true, goH_false, goG_val, lk_cons, lk_nil, lk_func, lk_int, lk_bool, lk_string, lk_slice, lk_agg, look_mk, St.effOf, eff, effCall, effBinC, isConst, effBin, effUn, effConv, effPick, effNil, effFold, fold1, effLoad, effStore, effFieldAddr, effField, fieldOf, sliceOf, effIndexAddr, effIndex, effLen, effExtract, effSlice, dats, bnd, effBuild, placesOf, effBuildSlice, effMakeSlice, effAppend, srcOf, fillA, chunk, seg, toD, toDs, put, eqAV, fieldsEq, leafEq, strip, unw, allB, selP_or, selP_and, tis, TyD.agg, AV.cells, AV.cell, allCell, vInt, vBool, vStr, subL_nil, subL_cons, upIds, AV.ids, AV.ids.idsL, AObj.ids, drops, Hp.get_cons, get_nil, retF, resL, one, fz, fz.fzL, List.map_cons, List.map_nil, List.nil_append, List.append_nil, List.cons_append, List.all_cons, List.all_nil, List.length_cons, List.length_nil, List.getElem?_cons_zero, List.getElem?_cons_succ, List.getD_cons_zero, List.getD_cons_succ, List.take_succ_cons, List.take_zero, List.drop_succ_cons, List.drop_zero, List.take_nil, List.drop_nil, List.contains_cons, List.contains_nil, Option.getD_some, Option.getD_none, Option.map_some, Option.map_none, if_true, if_false, true_and, and_true, and_self, or_self, or_false, false_or, false_and, and_false, reduceCtorEq, sel_and, sel_or, decide_eq_true_eq, Bool.and_eq_true, Bool.or_eq_true, Bool.and_true, Bool.true_and, Bool.or_false, Bool.false_or, Bool.true_or, Bool.or_true, Bool.not_true, Bool.not_false, Bool.false_eq_true, implies_true, not_false_eq_true, Nat.reduceLT, Nat.reduceEqDiff, Nat.reduceAdd, Nat.reduceMul, Nat.reduceMod, Nat.reduceLeDiff, Nat.reduceBEq, Nat.zero_add, Nat.add_zero, reduceIte, ↓reduceIte, List.not_mem_nil]
   refine ⟨h1.1, fun _ => h1.1, ?_⟩
   have c : (!fewS l) = true ∨ (name.size : Int) > 100 := by
    cases h : fewS l with
    | false => exact .inl rfl
    | true =>
     refine .inr ?_
     have : ¬ name.size ≤ 100 := fun h2 => hfn ⟨h, h2⟩
     omega
   rw [if_pos c]
 ·have hm := mapS_no hok
  have hw := writeS_no (nm := name) hok
  simp only [sgsD, sgOf_map, hm, hw, G24j_at, calmE, F_alive, F_fewS, F_rmap, F_write, AV.flat, AV.flat.flatL, List.length_map, goTG_val, goTG_new, goTG_up, goTG_none, goG_none, goG_new, goG_up, ne_eq, evK, evH, retHF, DRun_mk, runT_nil, runT_none, runT_guard, goT_val, goT_new, goT_store, goTH_true, goTH_false, evO, keys, Option.toList_some, Option.toList_none, nzL_nil, nzL_cons, nz_k, nz_sl, nz_nil, nz_agg, startL, evC, evV, goE_val, goE_new, goE_store, goH_true, goH_false, goG_val, lk_cons, lk_nil, lk_func, lk_int, lk_bool, lk_string, lk_slice, lk_agg, look_mk, St.effOf, eff, effCall, effBinC, isConst, effBin, effUn, effConv, effPick, effNil, effFold, fold1, effLoad, effStore, effFieldAddr, effField, fieldOf, sliceOf, effIndexAddr, effIndex, effLen, effExtract, effSlice, dats, bnd, effBuild, placesOf, effBuildSlice, effMakeSlice, effAppend, srcOf, fillA, chunk, seg, toD, toDs, put, eqAV, fieldsEq, leafEq, strip, unw, allB, selP_or, selP_and, tis, TyD.agg, AV.cells, AV.cell, allCell, vInt, vBool, vStr, subL_nil, subL_cons, upIds, AV.ids, AV.ids.idsL, AObj.ids, drops, Hp.get_cons, get_nil, retF, resL, one, fz, fz.fzL, List.map_cons, List.map_nil, List.nil_append, List.append_nil, List.cons_append, List.all_cons, List.all_nil, List.length_cons, List.length_nil, List.getElem?_cons_zero, List.getElem?_cons_succ, List.getD_cons_zero, List.getD_cons_succ, List.take_succ_cons, List.take_zero, List.drop_succ_cons, List.drop_zero, List.take_nil, List.drop_nil, List.contains_cons, List.contains_nil, Option.getD_some, Option.getD_none, Option.map_some, Option.map_none, if_true, if_false, true_and, and_true, and_self, or_self, or_false, false_or, false_and, and_false, reduceCtorEq, sel_and, sel_or, decide_eq_true_eq, Bool.and_eq_true, Bool.or_eq_true, Bool.and_true, Bool.true_and, Bool.or_false, Bool.false_or, Bool.true_or, Bool.or_true, Bool.not_true, Bool.not_false, Bool.false_eq_true, implies_true, not_false_eq_true, Nat.reduceLT, Nat.reduceEqDiff, Nat.reduceAdd, Nat.reduceMul, Nat.reduceMod, Nat.reduceLeDiff, Nat.reduceBEq, Nat.zero_add, Nat.add_zero, reduceIte, ↓reduceIte, List.not_mem_nil]
  refine ⟨h1.1, fun _ => h1.1, ?_⟩
  rw [if_pos (.inr True.intro)]
end Go.Proofs.Ytgbialeahdoelaa.Eng

end
