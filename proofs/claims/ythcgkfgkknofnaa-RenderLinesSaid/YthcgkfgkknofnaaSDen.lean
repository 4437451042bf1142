/- Documents that come in, as data; the law's few. -/
import Derived.Test.YthcgkfgkknofnaaSDoc4
import Derived.Test.YthcgkfgkknofnaaEngLaw
namespace Go.Proofs.Ythcgkfgkknofnaa.Eng
open Go Go.Proofs.Ythcgkfgkknofnaa.Base
set_option maxRecDepth 100000
set_option linter.unusedSimpArgs false
set_option linter.unusedVariables false
theorem docsOf_nil : docsOf [] = [] := docsOf_map []
theorem docs1 (A : Doc) : docsOf [[.v (.int .i64 A.k), .v (.int .i64 A.f), .v (.string A.t), .sl 4 (A.kids.map docD)]] = [A] := by
  have := docsOf_map [A]
  simpa only [List.map_cons, List.map_nil, docD_eq] using this
theorem docs2 (A B : Doc) : docsOf [[.v (.int .i64 A.k), .v (.int .i64 A.f), .v (.string A.t), .sl 4 (A.kids.map docD)], [.v (.int .i64 B.k), .v (.int .i64 B.f), .v (.string B.t), .sl 4 (B.kids.map docD)]] = [A, B] := by
  have := docsOf_map [A, B]
  simpa only [List.map_cons, List.map_nil, docD_eq] using this
theorem few_tot {D : Doc} (h : sizeD 0 D ≤ 300) : tot D ≤ 30300 := by
  have := tot_size 0 D (by decide) (by decide) h
  omega
theorem docD_len (D : Doc) : (docD D).length = 4 := by rw [docD_eq]; rfl
theorem okDs_of : ∀ {l : List Doc}, (∀ x ∈ l, okD x) → okDs l
  | [], _ => trivial
  | d :: l, h => ⟨h d List.mem_cons_self, okDs_of fun x hx => h x (List.mem_cons_of_mem _ hx)⟩
theorem encT24 (f : Nat) : IsEnc Try.prog f 24 (fun D : Doc => okD D) (fun D => docD D) := by
  induction f using Nat.strongRecOn with
  | ind f ih =>
    intro H enc W spare held cs r h
    have hs : ∀ g, g < f → IsEnc Try.prog g 22 (fun l : List Doc => l.length ≤ maxLen ∧ ∀ x ∈ l, okD x) (fun l => [.sl 4 (l.map docD)]) := fun g hg =>
      enc_slice Try.underlying22 (by kernel_rfl) (by decide) docD_len fun f' hf' => ih f' (by omega)
    obtain ⟨xs, h1, h2, h3⟩ := enc_struct (l := [(1, _), (1, _), (1, _), (1, _)]) Try.underlying24 (by kernel_rfl) (fun g hg => ⟨rfl, by kernel_rfl, (enc_int Try.underlying3).sub (fun _ => rfl), rfl, by kernel_rfl, (enc_int Try.underlying3).sub (fun _ => rfl), rfl, by kernel_rfl, (enc_string Try.underlying9).sub (fun _ => rfl), rfl, by kernel_rfl, (hs g hg).sub (fun _ => rfl), trivial⟩) H enc W spare held cs r h
    match xs, h1 with
    | [a, b, c, d], _ =>
      obtain ⟨-, k, -, ha⟩ := h2 0 a _ rfl rfl
      obtain ⟨-, g, -, hb⟩ := h2 1 b _ rfl rfl
      obtain ⟨-, t, ht, hc⟩ := h2 2 c _ rfl rfl
      obtain ⟨-, l, hl, hd⟩ := h2 3 d _ rfl rfl
      subst ha hb hc hd
      refine ⟨.mk k g t l, ⟨ht, hl.1, okDs_of hl.2⟩, ?_⟩
      show RdL W cs (docD (.mk k g t l)) ∧ cellsB (docD (.mk k g t l)) ≤ _
      rw [docD_eq]
      exact h3
end Go.Proofs.Ythcgkfgkknofnaa.Eng
