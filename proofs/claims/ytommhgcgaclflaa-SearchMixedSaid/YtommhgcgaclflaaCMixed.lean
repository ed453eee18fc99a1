/- What is mixed of two plans of rows is sure of at least the lesser of what both are sure of, and is best if both are, for every valid table and two plans of rows, by numbers. -/
import Derived.Test.YtommhgcgaclflaaOpU
import Derived.Test.YtommhgcgaclflaaLsF
namespace Go.Proofs.Ytommhgcgaclflaa
set_option linter.unusedVariables false
set_option linter.unusedSimpArgs false
set_option linter.unusedSectionVars false
set_option linter.unnecessarySimpa false
open Go Go.RowKit Go.ChangeShapes Go.WideShapes Go.ChangeAt Go.WideElems Go.Joins Go.Deep

set_option maxRecDepth 100000 in
theorem searchMixed_lifted (os : Os) (started : os.Started) (H : Type) (enc : TypeId × Value → H) :
 ReturnsInHanded {} Try.checked os 10 .any (Rows.searchMixedSpec.pre6 enc Try.prog Try.f10 Rows.searchMixedRow.domain false) (Rows.searchMixedSpec.post enc Try.prog Try.f10 false true false false) := by
 refine returnsInHanded_of_change (C := Try.checked) ownK started (by kernel_rfl) Try.func10
  (ChangeSpec.witness6 (enc := enc) (C := Try.checked) false ⟨#[], #[.agg #[.slice none 0 0], .slice none 0 0, .slice none 0 0], []⟩ 8 (by kernel_rfl) (by kernel_rfl) (by kernel_rfl) (by kernel_rfl)) ?_
 intro W base args ds gs before hval0 hW hcnd _
 have hval : ∀ (j : Nat) t v, Try.f10.params[j]? = some t → args[j]? = some v → Value.okWide Try.prog W .any base t v := hval0
 have hW' := hW
 obtain ⟨p, q, hA0, hV, rfl, hfz, hnd⟩ := hW
 have hA : DataW.TrodAll enc Try.prog W 0 (fun _ => true) true Try.f10.params.toList args.toList ds p := hA0
 rw [Try.params10] at hA hval
 obtain ⟨v0, v1, v2, d0, d1, d2, p0, p1, p2, rfl, rfl, rfl, h0, h1, h2⟩ := trodAll_three hA
 obtain ⟨rfl, rfl⟩ := trodVars_none hV
 obtain ⟨t0, a0, cap0, rfl, q0, hT0, hl0, hw0⟩ := open_table (hval 0 _ v0 rfl rfl) h0
 obtain ⟨l1, a1, cap1, rfl, hc1, hI1, hl1⟩ := open_words (hval 1 _ v1 rfl rfl) h1
 obtain ⟨l2, a2, cap2, rfl, hc2, hI2, hl2⟩ := open_words (hval 2 _ v2 rfl rfl) h2
 clear hA0 hval0
 refine (searchMixed_any t0 q0 a0 cap0 l1 hc1 a1 cap1 l2 hc2 a2 cap2 W hT0 hl0 hw0 hI1 hl1 hI2 hl2).mono fun e W' ⟨he, hw⟩ => ?_
 subst he
 exact ⟨_, rfl, law_post laidP (by rw [Try.params10]; intro t ht; simp at ht; rcases ht with rfl | rfl | rfl <;> exact ⟨by kernel_rfl, of_decide_eq_true (by kernel_rfl)⟩) (by kernel_rfl) Try.underlying4 rfl rfl hW' hw⟩

theorem searchMixed_holds : Rows.SearchMixedSaid :=
 OpenClaim.holds_of_wide 10 Try.f10 rfl rfl rfl rfl rfl rfl rfl ⟨rfl, rfl, rfl, rfl, rfl⟩ rfl rfl rfl rfl rfl (by kernel_rfl) Try.func10 (by kernel_rfl)
  (of_decide_eq_true (by kernel_rfl)) (by unfold Func.isWrapper; first | (rw [if_pos (by decide +kernel)]; kernel_rfl) | (rw [if_neg (by decide +kernel)]; exact ⟨rfl, rfl⟩))
  (fun os started H enc _ => searchMixed_lifted os started H enc)
#print axioms searchMixed_holds

end Go.Proofs.Ytommhgcgaclflaa
