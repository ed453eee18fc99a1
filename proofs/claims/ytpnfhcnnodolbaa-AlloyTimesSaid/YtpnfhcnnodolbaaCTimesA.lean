/- If all parts of a mixture are as many times as great its cost, what it has, and what it deserves, stay: the statement AlloyTimes, with no premise. -/
import Derived.Test.YtpnfhcnnodolbaaOpA
import Derived.Test.YtpnfhcnnodolbaaZTimesA33
namespace Go.Proofs.Ytpnfhcnnodolbaa
set_option linter.unusedVariables false
set_option linter.unusedSimpArgs false
set_option linter.unusedSectionVars false
set_option linter.unnecessarySimpa false
open Go Go.RowKit Go.ChangeShapes Go.WideShapes Go.ChangeAt Go.WideElems Go.Joins Go.Deep

set_option maxRecDepth 100000 in
theorem alloyTimes_lifted (os : Os) (started : os.Started) (H : Type) (enc : TypeId × Value → H) :
 ReturnsInHanded {} Try.checked os 14 .any (Rows.alloyTimesSpec.pre6 enc Try.prog Try.f14 Rows.alloyTimesRow.domain false) (Rows.alloyTimesSpec.post enc Try.prog Try.f14 false true false false) := by
 refine returnsInHanded_of_change (C := Try.checked) ownK started (by kernel_rfl) Try.func14
  (ChangeSpec.witness6 (enc := enc) (C := Try.checked) false ⟨#[], #[.slice none 0 0, .agg #[.int .i64 0, .int .i64 0], .bool false, .bool false, .slice none 0 0, .int .u8 0], []⟩ 8 (by kernel_rfl) (by kernel_rfl) (by kernel_rfl) (by kernel_rfl)) ?_
 intro W base args ds gs before hval0 hW hcnd _
 have hval : ∀ (j : Nat) t v, Try.f14.params[j]? = some t → args[j]? = some v → Value.okWide Try.prog W .any base t v := hval0
 have hW' := hW
 obtain ⟨p, q, hA0, hV, rfl, hfz, hnd⟩ := hW
 have hA : DataW.TrodAll enc Try.prog W 0 (fun _ => true) true Try.f14.params.toList args.toList ds p := hA0
 rw [Try.params14] at hA hval
 obtain ⟨v0, v1, v2, v3, v4, v5, d0, d1, d2, d3, d4, d5, p0, p1, p2, p3, p4, p5, rfl, rfl, rfl, h0, h1, h2, h3, h4, h5⟩ := trodAll_six hA
 obtain ⟨rfl, rfl⟩ := trodVars_none hV
 obtain ⟨l0, a0, cap0, rfl, q0, hM0, hl0⟩ := open_mets (hval 0 _ v0 rfl rfl) h0
 obtain ⟨x1, y1, rfl, wx1, wy1⟩ := open_touch (hval 1 _ v1 rfl rfl) h1
 obtain ⟨s2, rfl, rfl, rfl⟩ := open_bool Try.underlying4 (hval 2 _ v2 rfl rfl) h2
 obtain ⟨s3, rfl, rfl, rfl⟩ := open_bool Try.underlying4 (hval 3 _ v3 rfl rfl) h3
 obtain ⟨l4, a4, cap4, rfl, hc4, hI4, hl4⟩ := open_words (hval 4 _ v4 rfl rfl) h4
 obtain ⟨x5, rfl, rfl, rfl, w5⟩ := open_int Try.underlying5 (hval 5 _ v5 rfl rfl) h5
 clear hA0 hval0
 refine (alloyTimes_any l0 q0 a0 cap0 x1 y1 s2 s3 l4 hc4 a4 cap4 x5 W hM0 hl0 wx1 wy1   hI4 hl4 (u8_of w5)).mono fun e W' ⟨he, hw⟩ => ?_
 subst he
 exact ⟨_, rfl, law_post laidP (by rw [Try.params14]; intro t ht; simp at ht; rcases ht with rfl | rfl | rfl | rfl | rfl | rfl <;> exact ⟨by kernel_rfl, of_decide_eq_true (by kernel_rfl)⟩) (by kernel_rfl) Try.underlying4 rfl rfl hW' hw⟩

theorem alloyTimes_holds : Rows.AlloyTimesSaid :=
 OpenClaim.holds_of_wide 14 Try.f14 rfl rfl rfl rfl rfl rfl rfl ⟨rfl, rfl, rfl, rfl, rfl⟩ rfl rfl rfl rfl rfl (by kernel_rfl) Try.func14 (by kernel_rfl)
  (of_decide_eq_true (by kernel_rfl)) (by unfold Func.isWrapper; first | (rw [if_pos (by decide +kernel)]; kernel_rfl) | (rw [if_neg (by decide +kernel)]; exact ⟨rfl, rfl⟩))
  (fun os started H enc _ => alloyTimes_lifted os started H enc)
#print axioms alloyTimes_holds

end Go.Proofs.Ytpnfhcnnodolbaa
