/- With one more metal the least cost is no more, and one that costs as much as, or more than, another one, and has no less bad lead, and no more good copper, changes nothing: the statement AlloyMore, with no premise. -/
import Derived.Test.YtpnfhcnnodolbaaZMoreA37
import Derived.Test.YtpnfhcnnodolbaaZY24
import Derived.Test.YtpnfhcnnodolbaaZY15
import Derived.Test.YtpnfhcnnodolbaaZY2
import Derived.Test.YtpnfhcnnodolbaaZMoreA34
import Derived.Test.YtpnfhcnnodolbaaZY17
import Derived.Test.YtpnfhcnnodolbaaZY10
import Derived.Test.YtpnfhcnnodolbaaZY7
import Derived.Test.YtpnfhcnnodolbaaZY16
import Derived.Test.YtpnfhcnnodolbaaZY8
import Derived.Test.YtpnfhcnnodolbaaZMoreA35
import Derived.Test.YtpnfhcnnodolbaaZY3
import Derived.Test.YtpnfhcnnodolbaaZY18
import Derived.Test.YtpnfhcnnodolbaaZY12
import Derived.Test.YtpnfhcnnodolbaaZMoreA41
import Derived.Test.YtpnfhcnnodolbaaZY32
import Derived.Test.YtpnfhcnnodolbaaZY31
import Derived.Test.YtpnfhcnnodolbaaZY29
import Derived.Test.YtpnfhcnnodolbaaZY28
import Derived.Test.YtpnfhcnnodolbaaZY19
import Derived.Test.YtpnfhcnnodolbaaZY4
import Derived.Test.YtpnfhcnnodolbaaZY9
import Derived.Test.YtpnfhcnnodolbaaZY1
import Derived.Test.YtpnfhcnnodolbaaZY22
import Derived.Test.YtpnfhcnnodolbaaZY20
import Derived.Test.YtpnfhcnnodolbaaZMoreA36
import Derived.Test.YtpnfhcnnodolbaaZY26
import Derived.Test.YtpnfhcnnodolbaaZY25
import Derived.Test.YtpnfhcnnodolbaaZY11
import Derived.Test.YtpnfhcnnodolbaaZY21
import Derived.Test.YtpnfhcnnodolbaaZY5
import Derived.Test.YtpnfhcnnodolbaaZY13
import Derived.Test.YtpnfhcnnodolbaaZY23
import Derived.Test.YtpnfhcnnodolbaaZY14
import Derived.Test.YtpnfhcnnodolbaaZY27
import Derived.Test.YtpnfhcnnodolbaaZY6
import Derived.Test.YtpnfhcnnodolbaaZY30
import Derived.Test.YtpnfhcnnodolbaaZY33
import Derived.Test.YtpnfhcnnodolbaaZMoreA40
import Derived.Test.YtpnfhcnnodolbaaZMoreA39
import Derived.Test.YtpnfhcnnodolbaaZMoreA38
import Derived.Laws.OwnMore
namespace Go.Proofs.Ytpnfhcnnodolbaa
set_option linter.unusedVariables false
set_option linter.unusedSimpArgs false
set_option linter.unusedSectionVars false
set_option linter.unnecessarySimpa false
open Go Go.RowKit Go.ChangeShapes Go.WideShapes Go.ChangeAt Go.WideElems Go.Joins Go.Deep
set_option maxRecDepth 100000 in
theorem alloyMore_lifted (os : Os) (started : os.Started) (H : Type) (enc : TypeId × Value → H) :
 ReturnsInHanded {} Try.checked os 15 .any (Rows.alloyMoreSpec.pre6 enc Try.prog Try.f15 Rows.alloyMoreRow.domain false) (Rows.alloyMoreSpec.post enc Try.prog Try.f15 false true false false) := by
 refine returnsInHanded_of_change (C := Try.checked) ownK started (by kernel_rfl) Try.func15
  (ChangeSpec.witness6 (enc := enc) (C := Try.checked) false ⟨#[], #[.slice none 0 0, .agg #[.int .i64 0, .int .i64 0], .bool false, .agg #[.int .i64 0, .int .i64 0, .int .i64 0, .int .i64 0, .int .i64 0], .int .u8 0, .int .u16 0, .int .u16 0, .int .u16 0], []⟩ 8 (by kernel_rfl) (by kernel_rfl) (by kernel_rfl) (by kernel_rfl)) ?_
 intro W base args ds gs before hval0 hW hcnd _
 have hval : ∀ (j : Nat) t v, Try.f15.params[j]? = some t → args[j]? = some v → Value.okWide Try.prog W .any base t v := hval0
 have hW' := hW
 obtain ⟨p, q, hA0, hV, rfl, hfz, hnd⟩ := hW
 have hA : DataW.TrodAll enc Try.prog W 0 (fun _ => true) true Try.f15.params.toList args.toList ds p := hA0
 rw [Try.params15] at hA hval
 obtain ⟨v0, v1, v2, v3, v4, v5, v6, v7, d0, d1, d2, d3, d4, d5, d6, d7, p0, p1, p2, p3, p4, p5, p6, p7, rfl, rfl, rfl, h0, h1, h2, h3, h4, h5, h6, h7⟩ := trodAll_eight hA
 obtain ⟨rfl, rfl⟩ := trodVars_none hV
 obtain ⟨l0, a0, cap0, rfl, q0, hM0, hl0⟩ := open_mets (hval 0 _ v0 rfl rfl) h0
 obtain ⟨x1, y1, rfl, wx1, wy1⟩ := open_touch (hval 1 _ v1 rfl rfl) h1
 obtain ⟨s2, rfl, rfl, rfl⟩ := open_bool Try.underlying4 (hval 2 _ v2 rfl rfl) h2
 obtain ⟨x3, y3, z3, t3, r3, rfl, wx3, wy3, wz3, wt3, wr3⟩ := open_metal (hval 3 _ v3 rfl rfl) h3
 obtain ⟨x4, rfl, rfl, rfl, w4⟩ := open_int Try.underlying5 (hval 4 _ v4 rfl rfl) h4
 obtain ⟨x5, rfl, rfl, rfl, w5⟩ := open_int Try.underlying64 (hval 5 _ v5 rfl rfl) h5
 obtain ⟨x6, rfl, rfl, rfl, w6⟩ := open_int Try.underlying64 (hval 6 _ v6 rfl rfl) h6
 obtain ⟨x7, rfl, rfl, rfl, w7⟩ := open_int Try.underlying64 (hval 7 _ v7 rfl rfl) h7
 clear hA0 hval0
 refine (alloyMore_any l0 q0 a0 cap0 x1 y1 s2 x3 y3 z3 t3 r3 x4 x5 x6 x7 W hM0 hl0 wx1 wy1  wx3 wy3 wz3 wt3 wr3 (u8_of w4) (u16_of w5) (u16_of w6) (u16_of w7)).mono fun e W' ⟨he, hw⟩ => ?_
 subst he
 exact ⟨_, rfl, law_post laidP (by rw [Try.params15]; intro t ht; simp at ht; rcases ht with rfl | rfl | rfl | rfl | rfl | rfl | rfl | rfl <;> exact ⟨by kernel_rfl, of_decide_eq_true (by kernel_rfl)⟩) (by kernel_rfl) Try.underlying4 rfl rfl hW' hw⟩
theorem alloyMore_holds : Rows.AlloyMoreSaid :=
 OpenClaim.holds_of_wide 15 Try.f15 rfl rfl rfl rfl rfl rfl rfl ⟨rfl, rfl, rfl, rfl, rfl⟩ rfl rfl rfl rfl rfl (by kernel_rfl) Try.func15 (by kernel_rfl)
  (of_decide_eq_true (by kernel_rfl)) (by unfold Func.isWrapper; first | (rw [if_pos (by decide +kernel)]; kernel_rfl) | (rw [if_neg (by decide +kernel)]; exact ⟨rfl, rfl⟩))
  (fun os started H enc _ => alloyMore_lifted os started H enc)
#print axioms alloyMore_holds
end Go.Proofs.Ytpnfhcnnodolbaa
