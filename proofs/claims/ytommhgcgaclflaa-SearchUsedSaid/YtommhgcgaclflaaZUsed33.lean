/- Texts of one proof, laid together: Lng, Lw, Lh, Li. -/
import Derived.Test.YtommhgcgaclflaaTH
import Derived.Test.YtommhgcgaclflaaZB14
import Derived.Test.YtommhgcgaclflaaZB12
import Derived.Test.YtommhgcgaclflaaZB7
import Derived.Test.YtommhgcgaclflaaZB23
import Derived.Test.YtommhgcgaclflaaZB15
namespace Go.Proofs.Ytommhgcgaclflaa
set_option linter.unusedVariables false
set_option linter.unusedSimpArgs false
set_option linter.unusedSectionVars false
set_option linter.unnecessarySimpa false
open Go Go.RowKit Game
theorem longC_any (p : List Int) (hl : p.length ≤ 9223372036854775807) (a : Option Addr) (cap : Nat) (b : Bool) (hb : decide (8 < p.length) = b) (w : World) : Calls Try.prog 17 #[.slice a p.length cap] w fun e w' => e = .returned (.bool b) ∧ Ext w w' := by
 subst hb; exact long_any p hl a cap w

end Go.Proofs.Ytommhgcgaclflaa
namespace Go.Proofs.Ytommhgcgaclflaa
set_option linter.unusedVariables false
set_option linter.unusedSimpArgs false
set_option linter.unusedSectionVars false
set_option linter.unnecessarySimpa false
open Go Go.RowKit Game
set_option maxRecDepth 100000

theorem fine_grt {t : List (List Int)} (h : chkT t = 0) : grtT t = false := by
 have v := chkT_ok.1 h
 have h1 := mxl_le (t := t) (B := 4) (n := t.length) fun i hi => by rw [v.eq i hi]; exact v.n4
 have m4 := v.m4
 unfold grtT
 exact decide_eq_false (by omega)
set_option maxHeartbeats 1000000 in
theorem fineL_any (t : List (List Int)) (q : FitT t) (a : Option Addr) (cap : Nat) (w : World) (hT : Tab w a t) (hl : t.length ≤ 9223372036854775807) (hw : ∀ i, (row t i).length ≤ 9223372036854775807) :
 Calls Try.prog 40 #[(.agg #[.slice a t.length cap])] w fun e w' => e = .returned (.bool (decide (chkT t = 0))) ∧ Ext w w' := by
 have hT' := hid hT
 have hgr := hid (fun W hW => great_any t a cap W hW hl hw)
 cases g : grtT t with
 | true =>
  rw [g] at hgr
  have hn : chkT t ≠ 0 := fun h => by rw [fine_grt h] at g; cases g
  rw [decide_eq_false hn]
  clear hT hw hl hn
  go_enter Try.func40, Try.ntmps40
  go_wp2_with fail
  refine (hgr.out _ (hT'.out.ext (by repeat (with_reducible first | assumption | exact Ext.refl _ | refine Ext.drew ?_ | refine Ext.drewN ?_ _ | refine Ext.alloc ?_ _ | refine xS ?_ _ | refine xT ?_ (by assumption))))).mono ?_; rintro e w1 ⟨rfl, hE⟩
  go_wp2_with fail
  go_ret
  exact ⟨rfl, (by repeat (with_reducible first | assumption | exact Ext.refl _ | refine Ext.drew ?_ | refine Ext.drewN ?_ _ | refine Ext.alloc ?_ _ | refine xS ?_ _ | refine xT ?_ (by assumption)))⟩
 | false =>
  rw [g] at hgr
  obtain ⟨hl8, hw8⟩ := grt_no g
  have hck := hid (fun W hW => checkTableR_any t q a cap W hW (by omega) (fun i => by have := hw8 i; omega))
  obtain ⟨ck, hc⟩ : ∃ c, chkT t = c := ⟨_, rfl⟩
  rw [hc] at hck ⊢
  clear hT hw hl hl8 hw8 hc
  go_enter Try.func40, Try.ntmps40
  go_wp2_with fail
  refine (hgr.out _ (hT'.out.ext (by repeat (with_reducible first | assumption | exact Ext.refl _ | refine Ext.drew ?_ | refine Ext.drewN ?_ _ | refine Ext.alloc ?_ _ | refine xS ?_ _ | refine xT ?_ (by assumption))))).mono ?_; rintro e w1 ⟨rfl, hE⟩
  have m0 := hE.cell (p := ⟨w.heap.size, 0, none⟩) (v := .slice a t.length cap) (by simp [go_sem])
  go_wp2_with fail
  refine (hck.out _ (hT'.out.ext (by repeat (with_reducible first | assumption | exact Ext.refl _ | refine Ext.drew ?_ | refine Ext.drewN ?_ _ | refine Ext.alloc ?_ _ | refine xS ?_ _ | refine xT ?_ (by assumption))))).mono ?_; rintro e w2 ⟨rfl, hE2⟩
  go_wp2_with fail
  go_ret
  exact ⟨by by_cases h : ck = 0 <;> simp [h], (by repeat (with_reducible first | assumption | exact Ext.refl _ | refine Ext.drew ?_ | refine Ext.drewN ?_ _ | refine Ext.alloc ?_ _ | refine xS ?_ _ | refine xT ?_ (by assumption)))⟩

set_option maxHeartbeats 4000000 in
theorem smallL_any (a b : Int) (h1 : 1 ≤ b) (h2 : b ≤ 400000000) (h3 : -100 * b ≤ a) (h4 : a ≤ 100 * b) (e1 : ratN a b = a) (e2 : ratD a b = b) (w : World) :
 Calls Try.prog 43 #[.agg #[.int .i64 a, .int .i64 b]] w fun e w' => e = .returned (.bool true) ∧ Ext w w' := by
 have hby := hid (fun W => byR_any a b (by omega) (by omega) (by omega) (by omega) W)
 rw [e1, e2] at hby
 have z1 := Go.IntWalk.i64_in (-100 * b) (by omega)
 have z2 := Go.IntWalk.i64_in (100 * b) (by omega)
 have eS : ∀ w, (Op.equalIn 10000 30 (.agg #[.int .i64 a, .int .i64 b]) (.agg #[.int .i64 a, .int .i64 b])).run Try.prog w = .ok true w := fun w => by rw [run_eqRatio]; simp
 clear e1 e2
 go_enter Try.func43, Try.ntmps43
 go_wp2_with fail
 refine name_wp (fun w1 hw1 => ?_)
 have X := hid (show Ext w w1 from by rw [hw1]; exact (by repeat (with_reducible first | assumption | exact Ext.refl _ | refine Ext.drew ?_ | refine Ext.drewN ?_ _ | refine Ext.alloc ?_ _ | refine xS ?_ _ | refine xT ?_ (by assumption))))
 have c0 : w1.cell? ⟨w.heap.size, 0, none⟩ = some (.int .i64 a) := by rw [hw1]; simp [go_sem]
 have c1 : w1.cell? ⟨w.heap.size, 1, none⟩ = some (.int .i64 b) := by rw [hw1]; simp [go_sem]
 clear hw1
 obtain ⟨Bx, hBx⟩ : ∃ B, w.heap.size = B := ⟨_, rfl⟩
 rw [hBx] at c0 c1 ⊢
 replace hBx := hid hBx
 refine name_act (fun A_ hA_ => ?_)
 obtain ⟨Q2, hQ2⟩ : ∃ Q2 : Exit → Act → World → Prop, Q2 = fun e a' w' => e = .normal ∧ ∃ (v0_ v1_ v4_ v5_ v9_ v10_ v11_ v12_ v13_ v17_ v18_ v19_ v20_ v21_ v25_ v26_ v27_ v28_ v30_ : Value), a' = ((((((((((((((((((((((((((((((((((A_.put (some 3) (v0_)).put (some 4) (v1_)).put (some 5) (.bool true)).put (some 6) (.bool true)).put (some 7) (v4_)).put (some 8) (v5_)).put (some 9) (.bool true)).put (some 10) (.bool true)).put (some 11) (.bool true)).put (some 12) (v9_)).put (some 13) (v10_)).put (some 14) (v11_)).put (some 15) (v12_)).put (some 16) (v13_)).put (some 17) (.bool true)).put (some 18) (.bool true)).put (some 19) (.bool true)).put (some 20) (v17_)).put (some 21) (v18_)).put (some 22) (v19_)).put (some 23) (v20_)).put (some 24) (v21_)).put (some 25) (.bool true)).put (some 26) (.bool true)).put (some 27) (.bool true)).put (some 28) (v25_)).put (some 29) (v26_)).put (some 30) (v27_)).put (some 31) (v28_)).put (some 32) (.agg #[.int .i64 a, .int .i64 b])).put (some 33) (v30_)).put (some 34) (.bool true)).put (some 35) (.bool true)).put (some 2) (.bool true)) ∧ Ext w1 w' := ⟨_, rfl⟩
 have hpan : ∀ c a a' w w', Q2 (.panic c) a w → Q2 (.panic c) a' w' := by rw [hQ2]; rintro c a a' w w' ⟨h, _⟩; cases h
 replace hQ2 := hid hQ2
 refine wp_mono (Q := Q2) ?_ ?_
 ·subst hA_
  refine wp_region_held_drew (S := fun w' => Ext w1 w') (by kernel_rfl) (by repeat (with_reducible first | assumption | exact Ext.refl _ | refine Ext.drew ?_ | refine Ext.drewN ?_ _ | refine Ext.alloc ?_ _ | refine xS ?_ _ | refine xT ?_ (by assumption))) fun hHeld => ?_
  refine name_any (fun W0 hW => ?_)
  have s0 : Ext w1 W0 := by rw [hW]; exact hHeld
  clear hW hHeld
  refine tkA (i := 0) (v := ?_) rfl (fun c a w h => hpan c _ _ _ _ h) (Or.inl ⟨by rfl, ?yl⟩) (by assumption) ?_
  case yl => (intro w hSw; (try dsimp only at hSw); have k_0 := Ext.cell hSw c0; have k_1 := Ext.cell hSw c1; go_simp); with_reducible rfl
  try simp only [sxA, sxB, sxC, Act.put, sxD, sxE, sxF]
  refine tkA (i := 1) (v := ?_) rfl (fun c a w h => hpan c _ _ _ _ h) (Or.inl ⟨by rfl, ?yl⟩) (by assumption) ?_
  case yl => (intro w hSw; (try dsimp only at hSw); have k_0 := Ext.cell hSw c0; have k_1 := Ext.cell hSw c1; go_simp); with_reducible rfl
  try simp only [sxA, sxB, sxC, Act.put, sxD, sxE, sxF]
  refine tkA (i := 2) (v := .bool true) rfl (fun c a w h => hpan c _ _ _ _ h) (Or.inl ⟨by rfl, ?yl⟩) (by assumption) ?_
  case yl => (intro w hSw; (try dsimp only at hSw); have k_0 := Ext.cell hSw c0; have k_1 := Ext.cell hSw c1; go_simp; first | done | with_reducible rfl | (simp only [h1, h2, h3, h4]; done) | (simp [h1, h2, h3, h4]; done))
  try simp only [sxA, sxB, sxC, Act.put, sxD, sxE, sxF]
  refine tkA (i := 3) (v := .bool true) rfl (fun c a w h => hpan c _ _ _ _ h) (Or.inl ⟨by rfl, ?yl⟩) (by assumption) ?_
  case yl => (intro w hSw; (try dsimp only at hSw); have k_0 := Ext.cell hSw c0; have k_1 := Ext.cell hSw c1; go_simp; first | done | with_reducible rfl | (simp only [h1, h2, h3, h4]; done) | (simp [h1, h2, h3, h4]; done))
  try simp only [sxA, sxB, sxC, Act.put, sxD, sxE, sxF]
  refine tkA (i := 4) (v := ?_) rfl (fun c a w h => hpan c _ _ _ _ h) (Or.inl ⟨by rfl, ?yl⟩) (by assumption) ?_
  case yl => (intro w hSw; (try dsimp only at hSw); have k_0 := Ext.cell hSw c0; have k_1 := Ext.cell hSw c1; go_simp); with_reducible rfl
  try simp only [sxA, sxB, sxC, Act.put, sxD, sxE, sxF]
  refine tkA (i := 5) (v := ?_) rfl (fun c a w h => hpan c _ _ _ _ h) (Or.inl ⟨by rfl, ?yl⟩) (by assumption) ?_
  case yl => (intro w hSw; (try dsimp only at hSw); have k_0 := Ext.cell hSw c0; have k_1 := Ext.cell hSw c1; go_simp); with_reducible rfl
  try simp only [sxA, sxB, sxC, Act.put, sxD, sxE, sxF]
  refine tkA (i := 6) (v := .bool true) rfl (fun c a w h => hpan c _ _ _ _ h) (Or.inl ⟨by rfl, ?yl⟩) (by assumption) ?_
  case yl => (intro w hSw; (try dsimp only at hSw); have k_0 := Ext.cell hSw c0; have k_1 := Ext.cell hSw c1; go_simp; first | done | with_reducible rfl | (simp only [h1, h2, h3, h4]; done) | (simp [h1, h2, h3, h4]; done))
  try simp only [sxA, sxB, sxC, Act.put, sxD, sxE, sxF]
  refine tkA (i := 7) (v := .bool true) rfl (fun c a w h => hpan c _ _ _ _ h) (Or.inl ⟨by rfl, ?yl⟩) (by assumption) ?_
  case yl => (intro w hSw; (try dsimp only at hSw); have k_0 := Ext.cell hSw c0; have k_1 := Ext.cell hSw c1; go_simp; first | done | with_reducible rfl | (simp only [h1, h2, h3, h4]; done) | (simp [h1, h2, h3, h4]; done))
  try simp only [sxA, sxB, sxC, Act.put, sxD, sxE, sxF]
  refine tkA (i := 8) (v := .bool true) rfl (fun c a w h => hpan c _ _ _ _ h) (Or.inl ⟨by rfl, ?yl⟩) (by assumption) ?_
  case yl => (intro w hSw; (try dsimp only at hSw); have k_0 := Ext.cell hSw c0; have k_1 := Ext.cell hSw c1; go_simp; first | done | with_reducible rfl | (simp only [h1, h2, h3, h4]; done) | (simp [h1, h2, h3, h4]; done))
  try simp only [sxA, sxB, sxC, Act.put, sxD, sxE, sxF]
  refine tkA (i := 9) (v := ?_) rfl (fun c a w h => hpan c _ _ _ _ h) (Or.inl ⟨by rfl, ?yl⟩) (by assumption) ?_
  case yl => (intro w hSw; (try dsimp only at hSw); have k_0 := Ext.cell hSw c0; have k_1 := Ext.cell hSw c1; go_simp); with_reducible rfl
  try simp only [sxA, sxB, sxC, Act.put, sxD, sxE, sxF]
  refine tkA (i := 10) (v := ?_) rfl (fun c a w h => hpan c _ _ _ _ h) (Or.inl ⟨by rfl, ?yl⟩) (by assumption) ?_
  case yl => (intro w hSw; (try dsimp only at hSw); have k_0 := Ext.cell hSw c0; have k_1 := Ext.cell hSw c1; go_simp); with_reducible rfl
  try simp only [sxA, sxB, sxC, Act.put, sxD, sxE, sxF]
  refine tkA (i := 11) (v := ?_) rfl (fun c a w h => hpan c _ _ _ _ h) (Or.inl ⟨by rfl, ?yl⟩) (by assumption) ?_
  case yl => (intro w hSw; (try dsimp only at hSw); have k_0 := Ext.cell hSw c0; have k_1 := Ext.cell hSw c1; go_simp); with_reducible rfl
  try simp only [sxA, sxB, sxC, Act.put, sxD, sxE, sxF]
  refine tkA (i := 12) (v := ?_) rfl (fun c a w h => hpan c _ _ _ _ h) (Or.inl ⟨by rfl, ?yl⟩) (by assumption) ?_
  case yl => (intro w hSw; (try dsimp only at hSw); have k_0 := Ext.cell hSw c0; have k_1 := Ext.cell hSw c1; go_simp); with_reducible rfl
  try simp only [sxA, sxB, sxC, Act.put, sxD, sxE, sxF]
  refine tkA (i := 13) (v := ?_) rfl (fun c a w h => hpan c _ _ _ _ h) (Or.inl ⟨by rfl, ?yl⟩) (by assumption) ?_
  case yl => (intro w hSw; (try dsimp only at hSw); have k_0 := Ext.cell hSw c0; have k_1 := Ext.cell hSw c1; go_simp); with_reducible rfl
  try simp only [sxA, sxB, sxC, Act.put, sxD, sxE, sxF]
  refine tkA (i := 14) (v := .bool true) rfl (fun c a w h => hpan c _ _ _ _ h) (Or.inl ⟨by rfl, ?yl⟩) (by assumption) ?_
  case yl => (intro w hSw; (try dsimp only at hSw); have k_0 := Ext.cell hSw c0; have k_1 := Ext.cell hSw c1; go_simp; first | done | with_reducible rfl | (simp only [h1, h2, h3, h4]; done) | (simp [h1, h2, h3, h4]; done))
  try simp only [sxA, sxB, sxC, Act.put, sxD, sxE, sxF]
  refine tkA (i := 15) (v := .bool true) rfl (fun c a w h => hpan c _ _ _ _ h) (Or.inl ⟨by rfl, ?yl⟩) (by assumption) ?_
  case yl => (intro w hSw; (try dsimp only at hSw); have k_0 := Ext.cell hSw c0; have k_1 := Ext.cell hSw c1; go_simp; first | done | with_reducible rfl | (simp only [h1, h2, h3, h4]; done) | (simp [h1, h2, h3, h4]; done))
  try simp only [sxA, sxB, sxC, Act.put, sxD, sxE, sxF]
  refine tkA (i := 16) (v := .bool true) rfl (fun c a w h => hpan c _ _ _ _ h) (Or.inl ⟨by rfl, ?yl⟩) (by assumption) ?_
  case yl => (intro w hSw; (try dsimp only at hSw); have k_0 := Ext.cell hSw c0; have k_1 := Ext.cell hSw c1; go_simp; first | done | with_reducible rfl | (simp only [h1, h2, h3, h4]; done) | (simp [h1, h2, h3, h4]; done))
  try simp only [sxA, sxB, sxC, Act.put, sxD, sxE, sxF]
  refine tkA (i := 17) (v := ?_) rfl (fun c a w h => hpan c _ _ _ _ h) (Or.inl ⟨by rfl, ?yl⟩) (by assumption) ?_
  case yl => (intro w hSw; (try dsimp only at hSw); have k_0 := Ext.cell hSw c0; have k_1 := Ext.cell hSw c1; go_simp); with_reducible rfl
  try simp only [sxA, sxB, sxC, Act.put, sxD, sxE, sxF]
  refine tkA (i := 18) (v := ?_) rfl (fun c a w h => hpan c _ _ _ _ h) (Or.inl ⟨by rfl, ?yl⟩) (by assumption) ?_
  case yl => (intro w hSw; (try dsimp only at hSw); have k_0 := Ext.cell hSw c0; have k_1 := Ext.cell hSw c1; go_simp); with_reducible rfl
  try simp only [sxA, sxB, sxC, Act.put, sxD, sxE, sxF]
  refine tkA (i := 19) (v := ?_) rfl (fun c a w h => hpan c _ _ _ _ h) (Or.inl ⟨by rfl, ?yl⟩) (by assumption) ?_
  case yl => (intro w hSw; (try dsimp only at hSw); have k_0 := Ext.cell hSw c0; have k_1 := Ext.cell hSw c1; go_simp); with_reducible rfl
  try simp only [sxA, sxB, sxC, Act.put, sxD, sxE, sxF]
  refine tkA (i := 20) (v := ?_) rfl (fun c a w h => hpan c _ _ _ _ h) (Or.inl ⟨by rfl, ?yl⟩) (by assumption) ?_
  case yl => (intro w hSw; (try dsimp only at hSw); have k_0 := Ext.cell hSw c0; have k_1 := Ext.cell hSw c1; go_simp); with_reducible rfl
  try simp only [sxA, sxB, sxC, Act.put, sxD, sxE, sxF]
  refine tkA (i := 21) (v := ?_) rfl (fun c a w h => hpan c _ _ _ _ h) (Or.inl ⟨by rfl, ?yl⟩) (by assumption) ?_
  case yl => (intro w hSw; (try dsimp only at hSw); have k_0 := Ext.cell hSw c0; have k_1 := Ext.cell hSw c1; go_simp); with_reducible rfl
  try simp only [sxA, sxB, sxC, Act.put, sxD, sxE, sxF]
  refine tkA (i := 22) (v := .bool true) rfl (fun c a w h => hpan c _ _ _ _ h) (Or.inl ⟨by rfl, ?yl⟩) (by assumption) ?_
  case yl => (intro w hSw; (try dsimp only at hSw); have k_0 := Ext.cell hSw c0; have k_1 := Ext.cell hSw c1; go_simp; first | done | with_reducible rfl | (simp only [h1, h2, h3, h4]; done) | (simp [h1, h2, h3, h4]; done))
  try simp only [sxA, sxB, sxC, Act.put, sxD, sxE, sxF]
  refine tkA (i := 23) (v := .bool true) rfl (fun c a w h => hpan c _ _ _ _ h) (Or.inl ⟨by rfl, ?yl⟩) (by assumption) ?_
  case yl => (intro w hSw; (try dsimp only at hSw); have k_0 := Ext.cell hSw c0; have k_1 := Ext.cell hSw c1; go_simp; first | done | with_reducible rfl | (simp only [h1, h2, h3, h4]; done) | (simp [h1, h2, h3, h4]; done))
  try simp only [sxA, sxB, sxC, Act.put, sxD, sxE, sxF]
  refine tkA (i := 24) (v := .bool true) rfl (fun c a w h => hpan c _ _ _ _ h) (Or.inl ⟨by rfl, ?yl⟩) (by assumption) ?_
  case yl => (intro w hSw; (try dsimp only at hSw); have k_0 := Ext.cell hSw c0; have k_1 := Ext.cell hSw c1; go_simp; first | done | with_reducible rfl | (simp only [h1, h2, h3, h4]; done) | (simp [h1, h2, h3, h4]; done))
  try simp only [sxA, sxB, sxC, Act.put, sxD, sxE, sxF]
  refine tkA (i := 25) (v := ?_) rfl (fun c a w h => hpan c _ _ _ _ h) (Or.inl ⟨by rfl, ?yl⟩) (by assumption) ?_
  case yl => (intro w hSw; (try dsimp only at hSw); have k_0 := Ext.cell hSw c0; have k_1 := Ext.cell hSw c1; go_simp); with_reducible rfl
  try simp only [sxA, sxB, sxC, Act.put, sxD, sxE, sxF]
  refine tkA (i := 26) (v := ?_) rfl (fun c a w h => hpan c _ _ _ _ h) (Or.inl ⟨by rfl, ?yl⟩) (by assumption) ?_
  case yl => (intro w hSw; (try dsimp only at hSw); have k_0 := Ext.cell hSw c0; have k_1 := Ext.cell hSw c1; go_simp); with_reducible rfl
  try simp only [sxA, sxB, sxC, Act.put, sxD, sxE, sxF]
  refine tkA (i := 27) (v := ?_) rfl (fun c a w h => hpan c _ _ _ _ h) (Or.inl ⟨by rfl, ?yl⟩) (by assumption) ?_
  case yl => (intro w hSw; (try dsimp only at hSw); have k_0 := Ext.cell hSw c0; have k_1 := Ext.cell hSw c1; go_simp); with_reducible rfl
  try simp only [sxA, sxB, sxC, Act.put, sxD, sxE, sxF]
  refine tkA (i := 28) (v := ?_) rfl (fun c a w h => hpan c _ _ _ _ h) (Or.inl ⟨by rfl, ?yl⟩) (by assumption) ?_
  case yl => (intro w hSw; (try dsimp only at hSw); have k_0 := Ext.cell hSw c0; have k_1 := Ext.cell hSw c1; go_simp); with_reducible rfl
  try simp only [sxA, sxB, sxC, Act.put, sxD, sxE, sxF]
  refine tkA (i := 30) (v := ?_) rfl (fun c a w h => hpan c _ _ _ _ h) (Or.inl ⟨by rfl, ?yl⟩) (by assumption) ?_
  case yl => (intro w hSw; (try dsimp only at hSw); have k_0 := Ext.cell hSw c0; have k_1 := Ext.cell hSw c1; go_simp); with_reducible rfl
  try simp only [sxA, sxB, sxC, Act.put, sxD, sxE, sxF]
  refine wpAnyH_ready (rs := [29]) (by kernel_rfl) (by simp) ?_
  refine AllReadyH.cons (o := _) rfl (fun K hK => ?_) AllReadyH.nil
  go_simp
  refine (hby.out _).mono ?_; rintro e W1 ⟨rfl, e1⟩
  have s1 := s0.trans e1
  refine hK.out _ _ s1 (fun _ => ?_)
  clear hK K
  (try simp only [sxA, sxB, sxC, Act.put, sxD, sxE, sxF])
  refine tkA (i := 31) (v := .bool true) rfl (fun c a w h => hpan c _ _ _ _ h) (Or.inl ⟨by rfl, ?yl⟩) (by assumption) ?_
  case yl => (intro w hSw; (try dsimp only at hSw); have k_0 := Ext.cell hSw c0; have k_1 := Ext.cell hSw c1; go_simp; first | done | with_reducible rfl | (simp only [h1, h2, h3, h4]; done) | (simp [h1, h2, h3, h4]; done))
  try simp only [sxA, sxB, sxC, Act.put, sxD, sxE, sxF]
  refine tkA (i := 32) (v := .bool true) rfl (fun c a w h => hpan c _ _ _ _ h) (Or.inl ⟨by rfl, ?yl⟩) (by assumption) ?_
  case yl => (intro w hSw; (try dsimp only at hSw); have k_0 := Ext.cell hSw c0; have k_1 := Ext.cell hSw c1; go_simp; first | done | with_reducible rfl | (simp only [h1, h2, h3, h4]; done) | (simp [h1, h2, h3, h4]; done))
  try simp only [sxA, sxB, sxC, Act.put, sxD, sxE, sxF]
  refine tkA (i := 33) (v := .bool true) rfl (fun c a w h => hpan c _ _ _ _ h) (Or.inl ⟨by rfl, ?yl⟩) (by assumption) ?_
  case yl => (intro w hSw; (try dsimp only at hSw); have k_0 := Ext.cell hSw c0; have k_1 := Ext.cell hSw c1; go_simp; first | done | with_reducible rfl | (simp only [h1, h2, h3, h4]; done) | (simp [h1, h2, h3, h4]; done))
  try simp only [sxA, sxB, sxC, Act.put, sxD, sxE, sxF]
  refine wpAnyH_done (by kernel_rfl) ?_ _
  try simp only [sxA, sxB, sxC, Act.put, sxD, sxE, sxF]
  rw [hQ2.out]
  refine ⟨rfl, ?u1_0_1, ?u1_1_1, ?u1_2_1, ?u1_3_1, ?u1_4_1, ?u1_5_1, ?u1_6_1, ?u1_7_1, ?u1_8_1, ?u1_9_1, ?u1_10_1, ?u1_11_1, ?u1_12_1, ?u1_13_1, ?u1_14_1, ?u1_15_1, ?u1_16_1, ?u1_17_1, ?u1_18_1, ?eq1_1, s1⟩
  case eq1_1 => ((try simp only [sxA, sxB, sxC, Act.put, sxD, sxE, sxF]); first | done | with_reducible rfl | rfl)
 rw [hQ2.out]
 rintro e a' w2 ⟨rfl, v0_, v1_, v4_, v5_, v9_, v10_, v11_, v12_, v13_, v17_, v18_, v19_, v20_, v21_, v25_, v26_, v27_, v28_, v30_, rfl, x⟩
 clear hQ2 hpan; clear Q2
 subst hA_
 simp only [sxA, sxB, sxC, Act.put, sxD, sxE, sxF]
 go_wp2_with fail
 go_ret
 exact ⟨rfl, X.out.trans x⟩

end Go.Proofs.Ytommhgcgaclflaa
namespace Go.Proofs.Ytommhgcgaclflaa
set_option linter.unusedVariables false
set_option linter.unusedSimpArgs false
set_option linter.unusedSectionVars false
set_option linter.unnecessarySimpa false
open Go Go.RowKit Game
set_option maxRecDepth 100000

set_option maxHeartbeats 1000000 in
theorem hasL_yes (l : List Int) (x : Int) (i : Nat) (hi : i < l.length) (he : nth l i = x) (hl : l.length ≤ 1000) (a : Option Addr) (cap : Nat) (w : World) (hI : Ints w a l) :
 Calls Try.prog 48 #[.slice a l.length cap, .int .i64 x] w fun e w' => e = .returned (.bool true) ∧ Ext w w' := by
 obtain ⟨b, off, rfl, hb, hcc⟩ := hI.at (by omega)
 have HC := hid hcc
 obtain ⟨n, hn⟩ : ∃ n, l.length = n := ⟨_, rfl⟩
 rw [hn] at hi hl HC ⊢
 replace hn := hid hn
 replace he := hid he
 clear hI hcc hb
 go_enter Try.func48, Try.ntmps48
 go_wp2_with fail
 go_loop [5] (fun s => ∃ k : Nat, k ≤ i ∧ s = .int .i64 k) (fun s => (n - intOf s).toNat)
 case atStart => exact ⟨0, by omega, rfl⟩
 case round =>
  obtain ⟨k, hk, rfl⟩ := hrel
  have c0 := HC.out k (by omega)
  have u2 := Go.IntWalk.i64_in ((k : Int) + 1) (by omega)
  have hkn : (k : Int) < (n : Int) := by omega
  have hkn2 : k < n := by omega
  by_cases e : nth l k = x
  ·rw [e] at c0
   replace e := hid e
   go_wp2_with fail
   go_ret
   exact ⟨rfl, Ext.refl _⟩
  ·have hne : k ≠ i := fun h => by subst h; exact e he.out
   obtain ⟨y, hy⟩ : ∃ y, nth l k = y := ⟨_, rfl⟩
   rw [hy] at c0 e
   replace hy := hid hy
   have e1 : (y == x) = false := by rw [beq_eq_false_iff_ne]; exact e
   go_wp2_with fail
   go_round
   case rel => exact ⟨k + 1, by omega, by go_num⟩
   case measure => simp [intOf]; omega

end Go.Proofs.Ytommhgcgaclflaa
namespace Go.Proofs.Ytommhgcgaclflaa
set_option linter.unusedVariables false
set_option linter.unusedSimpArgs false
set_option linter.unusedSectionVars false
set_option linter.unnecessarySimpa false
open Go Go.RowKit Game
set_option maxRecDepth 100000

set_option maxHeartbeats 2000000 in
theorem isListL_yes (l : List Int) (B : Int) (h0 : ∀ i, i < l.length → 0 ≤ nth l i ∧ nth l i < B) (h1 : ∀ i, i + 1 < l.length → nth l i < nth l (i + 1)) (hl : l.length ≤ 1000) (a : Option Addr) (cap : Nat) (w : World) (hI : Ints w a l) :
 Calls Try.prog 47 #[.slice a l.length cap, .int .i64 B] w fun e w' => e = .returned (.bool true) ∧ Ext w w' := by
 have HC : Hid (∀ i, i < l.length → ∃ b off, a = some ⟨b, off, none⟩ ∧ w.cell? ⟨b, off + i, none⟩ = some (.int .i64 (nth l i))) := hid hI
 replace h0 := hid h0
 replace h1 := hid h1
 obtain ⟨n, hn⟩ : ∃ n, l.length = n := ⟨_, rfl⟩
 rw [hn] at h0 h1 hl HC ⊢
 replace hn := hid hn
 clear hI
 go_enter Try.func47, Try.ntmps47
 go_wp2_with fail
 go_loopw [5] (fun s wr => ∃ k : Nat, k ≤ n ∧ s = .int .i64 k ∧ Hid (Ext w wr)) (fun s _ => (n - intOf s).toNat)
 case atStart => exact ⟨0, by omega, rfl, hid (Ext.refl _)⟩
 case round =>
  obtain ⟨k, hk, rfl, hx⟩ := hrel
  by_cases hkl : k < n
  ·obtain ⟨b, off, rfl, c0⟩ := HC.out k hkl
   have c0 := hx.out.cell c0
   obtain ⟨q0, q1⟩ := h0.out k hkl
   have u2 := Go.IntWalk.i64_in ((k : Int) + 1) (by omega)
   have hkn : (k : Int) < (n : Int) := by omega
   by_cases hz : k = 0
   ·subst hz
    rw [Nat.add_zero] at c0
    have hn0 : (0 : Int) < (n : Int) := by omega
    obtain ⟨y, hy⟩ : ∃ y, nth l 0 = y := ⟨_, rfl⟩
    rw [hy] at c0 q0 q1
    replace hy := hid hy
    have e1 : ¬ y < 0 := by omega
    have e2 : ¬ B ≤ y := by omega
    go_wp2_with fail
    obtain ⟨w3, rfl⟩ : ∃ w4 : World, w4 = wr := ⟨_, rfl⟩
    refine name_act (fun A_ hA_ => ?_)
    obtain ⟨Q2, hQ2⟩ : ∃ Q2 : Exit → Act → World → Prop, Q2 = fun e a' w' => e = .normal ∧ ∃ (v0_ v1_ v2_ v3_ v6_ v7_ v8_ v9_ v10_ v14_ : Value), a' = (((((((((((((((((((((((((((((A_.put (some 12) (v0_)).put (some 13) (v1_)).put (some 14) (v2_)).put (some 15) (v3_)).put (some 16) (.bool false)).put (some 17) (.bool false)).put (some 18) (v6_)).put (some 19) (v7_)).put (some 20) (v8_)).put (some 21) (v9_)).put (some 22) (v10_)).put (some 23) (.bool false)).put (some 24) (.bool false)).put (some 25) (.bool false)).put (some 26) (v14_)).put (some 27) (.bool false)).put (some 28) (.bool false)).put (some 29) (undef)).put (some 30) (undef)).put (some 31) (undef)).put (some 32) (undef)).put (some 33) (undef)).put (some 34) (undef)).put (some 35) (undef)).put (some 36) (undef)).put (some 37) (undef)).put (some 38) (undef)).put (some 39) (.bool false)).put (some 40) (.bool false)) ∧ Ext w3 w' := ⟨_, rfl⟩
    have hpan : ∀ c a a' w w', Q2 (.panic c) a w → Q2 (.panic c) a' w' := by rw [hQ2]; rintro c a a' w w' ⟨h, _⟩; cases h
    replace hQ2 := hid hQ2
    refine wp_mono (Q := Q2) ?_ ?_
    ·subst hA_
     refine wp_region_held_drew (S := fun w' => Ext w3 w') (by kernel_rfl) (by repeat (with_reducible first | assumption | exact Ext.refl _ | refine Ext.drew ?_ | refine Ext.drewN ?_ _ | refine Ext.alloc ?_ _ | refine xS ?_ _ | refine xT ?_ (by assumption))) fun hHeld => ?_
     refine name_any (fun W0 hW => ?_)
     have s0 : Ext w3 W0 := by rw [hW]; exact hHeld
     clear hW hHeld
     refine tkA (i := 0) (v := ?_) rfl (fun c a w h => hpan c _ _ _ _ h) (Or.inl ⟨by rfl, ?yl⟩) (by assumption) ?_
     case yl => (intro w hSw; (try dsimp only at hSw); have k_0 := Ext.cell hSw c0; go_simp); with_reducible rfl
     try simp only [sxA, sxB, sxC, Act.put, sxD, sxE, sxF]
     refine tkA (i := 1) (v := ?_) rfl (fun c a w h => hpan c _ _ _ _ h) (Or.inl ⟨by rfl, ?yl⟩) (by assumption) ?_
     case yl => (intro w hSw; (try dsimp only at hSw); have k_0 := Ext.cell hSw c0; go_simp); with_reducible rfl
     try simp only [sxA, sxB, sxC, Act.put, sxD, sxE, sxF]
     refine tkA (i := 2) (v := ?_) rfl (fun c a w h => hpan c _ _ _ _ h) (Or.inl ⟨by rfl, ?yl⟩) (by assumption) ?_
     case yl => (intro w hSw; (try dsimp only at hSw); have k_0 := Ext.cell hSw c0; go_simp); with_reducible rfl
     try simp only [sxA, sxB, sxC, Act.put, sxD, sxE, sxF]
     refine tkA (i := 3) (v := ?_) rfl (fun c a w h => hpan c _ _ _ _ h) (Or.inl ⟨by rfl, ?yl⟩) (by assumption) ?_
     case yl => (intro w hSw; (try dsimp only at hSw); have k_0 := Ext.cell hSw c0; go_simp); with_reducible rfl
     try simp only [sxA, sxB, sxC, Act.put, sxD, sxE, sxF]
     refine tkA (i := 4) (v := .bool false) rfl (fun c a w h => hpan c _ _ _ _ h) (Or.inl ⟨by rfl, ?yl⟩) (by assumption) ?_
     case yl => (intro w hSw; (try dsimp only at hSw); have k_0 := Ext.cell hSw c0; go_simp; first | done | with_reducible rfl | (simp only [e1, e2]; done) | (simp [e1, e2]; done))
     try simp only [sxA, sxB, sxC, Act.put, sxD, sxE, sxF]
     refine tkA (i := 5) (v := .bool false) rfl (fun c a w h => hpan c _ _ _ _ h) (Or.inl ⟨by rfl, ?yl⟩) (by assumption) ?_
     case yl => (intro w hSw; (try dsimp only at hSw); have k_0 := Ext.cell hSw c0; go_simp; first | done | with_reducible rfl | (simp only [e1, e2]; done) | (simp [e1, e2]; done))
     try simp only [sxA, sxB, sxC, Act.put, sxD, sxE, sxF]
     refine tkA (i := 6) (v := ?_) rfl (fun c a w h => hpan c _ _ _ _ h) (Or.inl ⟨by rfl, ?yl⟩) (by assumption) ?_
     case yl => (intro w hSw; (try dsimp only at hSw); have k_0 := Ext.cell hSw c0; go_simp); with_reducible rfl
     try simp only [sxA, sxB, sxC, Act.put, sxD, sxE, sxF]
     refine tkA (i := 7) (v := ?_) rfl (fun c a w h => hpan c _ _ _ _ h) (Or.inl ⟨by rfl, ?yl⟩) (by assumption) ?_
     case yl => (intro w hSw; (try dsimp only at hSw); have k_0 := Ext.cell hSw c0; go_simp); with_reducible rfl
     try simp only [sxA, sxB, sxC, Act.put, sxD, sxE, sxF]
     refine tkA (i := 8) (v := ?_) rfl (fun c a w h => hpan c _ _ _ _ h) (Or.inl ⟨by rfl, ?yl⟩) (by assumption) ?_
     case yl => (intro w hSw; (try dsimp only at hSw); have k_0 := Ext.cell hSw c0; go_simp); with_reducible rfl
     try simp only [sxA, sxB, sxC, Act.put, sxD, sxE, sxF]
     refine tkA (i := 9) (v := ?_) rfl (fun c a w h => hpan c _ _ _ _ h) (Or.inl ⟨by rfl, ?yl⟩) (by assumption) ?_
     case yl => (intro w hSw; (try dsimp only at hSw); have k_0 := Ext.cell hSw c0; go_simp); with_reducible rfl
     try simp only [sxA, sxB, sxC, Act.put, sxD, sxE, sxF]
     refine tkA (i := 10) (v := ?_) rfl (fun c a w h => hpan c _ _ _ _ h) (Or.inl ⟨by rfl, ?yl⟩) (by assumption) ?_
     case yl => (intro w hSw; (try dsimp only at hSw); have k_0 := Ext.cell hSw c0; go_simp); with_reducible rfl
     try simp only [sxA, sxB, sxC, Act.put, sxD, sxE, sxF]
     refine tkA (i := 11) (v := .bool false) rfl (fun c a w h => hpan c _ _ _ _ h) (Or.inl ⟨by rfl, ?yl⟩) (by assumption) ?_
     case yl => (intro w hSw; (try dsimp only at hSw); have k_0 := Ext.cell hSw c0; go_simp; first | done | with_reducible rfl | (simp only [e1, e2]; done) | (simp [e1, e2]; done))
     try simp only [sxA, sxB, sxC, Act.put, sxD, sxE, sxF]
     refine tkA (i := 12) (v := .bool false) rfl (fun c a w h => hpan c _ _ _ _ h) (Or.inl ⟨by rfl, ?yl⟩) (by assumption) ?_
     case yl => (intro w hSw; (try dsimp only at hSw); have k_0 := Ext.cell hSw c0; go_simp; first | done | with_reducible rfl | (simp only [e1, e2]; done) | (simp [e1, e2]; done))
     try simp only [sxA, sxB, sxC, Act.put, sxD, sxE, sxF]
     refine tkA (i := 13) (v := .bool false) rfl (fun c a w h => hpan c _ _ _ _ h) (Or.inl ⟨by rfl, ?yl⟩) (by assumption) ?_
     case yl => (intro w hSw; (try dsimp only at hSw); have k_0 := Ext.cell hSw c0; go_simp; first | done | with_reducible rfl | (simp only [e1, e2]; done) | (simp [e1, e2]; done))
     try simp only [sxA, sxB, sxC, Act.put, sxD, sxE, sxF]
     refine tkA (i := 14) (v := ?_) rfl (fun c a w h => hpan c _ _ _ _ h) (Or.inl ⟨by rfl, ?yl⟩) (by assumption) ?_
     case yl => (intro w hSw; (try dsimp only at hSw); have k_0 := Ext.cell hSw c0; go_simp); with_reducible rfl
     try simp only [sxA, sxB, sxC, Act.put, sxD, sxE, sxF]
     refine tkA (i := 15) (v := .bool false) rfl (fun c a w h => hpan c _ _ _ _ h) (Or.inl ⟨by rfl, ?yl⟩) (by assumption) ?_
     case yl => (intro w hSw; (try dsimp only at hSw); have k_0 := Ext.cell hSw c0; go_simp; first | done | with_reducible rfl | (simp only [e1, e2]; done) | (simp [e1, e2]; done))
     try simp only [sxA, sxB, sxC, Act.put, sxD, sxE, sxF]
     refine tkA (i := 16) (v := .bool false) rfl (fun c a w h => hpan c _ _ _ _ h) (Or.inl ⟨by rfl, ?yl⟩) (by assumption) ?_
     case yl => (intro w hSw; (try dsimp only at hSw); have k_0 := Ext.cell hSw c0; go_simp; first | done | with_reducible rfl | (simp only [e1, e2]; done) | (simp [e1, e2]; done))
     try simp only [sxA, sxB, sxC, Act.put, sxD, sxE, sxF]
     refine tkA (i := 17) (v := undef) rfl (fun c a w h => hpan c _ _ _ _ h) (Or.inr ⟨by kernel_rfl, rfl⟩) (by assumption) ?_
     try simp only [sxA, sxB, sxC, Act.put, sxD, sxE, sxF]
     refine tkA (i := 18) (v := undef) rfl (fun c a w h => hpan c _ _ _ _ h) (Or.inr ⟨by kernel_rfl, rfl⟩) (by assumption) ?_
     try simp only [sxA, sxB, sxC, Act.put, sxD, sxE, sxF]
     refine tkA (i := 19) (v := undef) rfl (fun c a w h => hpan c _ _ _ _ h) (Or.inr ⟨by kernel_rfl, rfl⟩) (by assumption) ?_
     try simp only [sxA, sxB, sxC, Act.put, sxD, sxE, sxF]
     refine tkA (i := 20) (v := undef) rfl (fun c a w h => hpan c _ _ _ _ h) (Or.inr ⟨by kernel_rfl, rfl⟩) (by assumption) ?_
     try simp only [sxA, sxB, sxC, Act.put, sxD, sxE, sxF]
     refine tkA (i := 21) (v := undef) rfl (fun c a w h => hpan c _ _ _ _ h) (Or.inr ⟨by kernel_rfl, rfl⟩) (by assumption) ?_
     try simp only [sxA, sxB, sxC, Act.put, sxD, sxE, sxF]
     refine tkA (i := 22) (v := undef) rfl (fun c a w h => hpan c _ _ _ _ h) (Or.inr ⟨by kernel_rfl, rfl⟩) (by assumption) ?_
     try simp only [sxA, sxB, sxC, Act.put, sxD, sxE, sxF]
     refine tkA (i := 23) (v := undef) rfl (fun c a w h => hpan c _ _ _ _ h) (Or.inr ⟨by kernel_rfl, rfl⟩) (by assumption) ?_
     try simp only [sxA, sxB, sxC, Act.put, sxD, sxE, sxF]
     refine tkA (i := 24) (v := undef) rfl (fun c a w h => hpan c _ _ _ _ h) (Or.inr ⟨by kernel_rfl, rfl⟩) (by assumption) ?_
     try simp only [sxA, sxB, sxC, Act.put, sxD, sxE, sxF]
     refine tkA (i := 25) (v := undef) rfl (fun c a w h => hpan c _ _ _ _ h) (Or.inr ⟨by kernel_rfl, rfl⟩) (by assumption) ?_
     try simp only [sxA, sxB, sxC, Act.put, sxD, sxE, sxF]
     refine tkA (i := 26) (v := undef) rfl (fun c a w h => hpan c _ _ _ _ h) (Or.inr ⟨by kernel_rfl, rfl⟩) (by assumption) ?_
     try simp only [sxA, sxB, sxC, Act.put, sxD, sxE, sxF]
     refine tkA (i := 27) (v := .bool false) rfl (fun c a w h => hpan c _ _ _ _ h) (Or.inl ⟨by rfl, ?yl⟩) (by assumption) ?_
     case yl => (intro w hSw; (try dsimp only at hSw); have k_0 := Ext.cell hSw c0; go_simp; first | done | with_reducible rfl | (simp only [e1, e2]; done) | (simp [e1, e2]; done))
     try simp only [sxA, sxB, sxC, Act.put, sxD, sxE, sxF]
     refine tkA (i := 28) (v := .bool false) rfl (fun c a w h => hpan c _ _ _ _ h) (Or.inl ⟨by rfl, ?yl⟩) (by assumption) ?_
     case yl => (intro w hSw; (try dsimp only at hSw); have k_0 := Ext.cell hSw c0; go_simp; first | done | with_reducible rfl | (simp only [e1, e2]; done) | (simp [e1, e2]; done))
     try simp only [sxA, sxB, sxC, Act.put, sxD, sxE, sxF]
     refine wpAnyH_done (by kernel_rfl) ?_ _
     try simp only [sxA, sxB, sxC, Act.put, sxD, sxE, sxF]
     rw [hQ2.out]
     refine ⟨rfl, ?u1_0_1, ?u1_1_1, ?u1_2_1, ?u1_3_1, ?u1_4_1, ?u1_5_1, ?u1_6_1, ?u1_7_1, ?u1_8_1, ?u1_9_1, ?eq1_1, s0⟩
     case eq1_1 => ((try simp only [sxA, sxB, sxC, Act.put, sxD, sxE, sxF]); first | done | with_reducible rfl | rfl)
    rw [hQ2.out]
    rintro e a' w4 ⟨rfl, v0_, v1_, v2_, v3_, v6_, v7_, v8_, v9_, v10_, v14_, rfl, x⟩
    clear hQ2 hpan; clear Q2
    subst hA_
    simp only [sxA, sxB, sxC, Act.put, sxD, sxE, sxF]
    go_wp2_with fail
    go_roundw
    case rel => exact ⟨1, by omega, by go_num, hid (hx.out.trans x)⟩
    case measure => simp [intOf]; omega
   ·obtain ⟨b', off', e', c1⟩ := HC.out (k - 1) (by omega)
    cases e'
    have c1 := hx.out.cell c1
    have q2 := h1.out (k - 1) (by omega)
    rw [show k - 1 + 1 = k by omega] at q2
    obtain ⟨y, hy⟩ : ∃ y, nth l k = y := ⟨_, rfl⟩
    obtain ⟨z, hz2⟩ : ∃ y, nth l (k - 1) = y := ⟨_, rfl⟩
    rw [hy] at c0 q0 q1 q2
    rw [hz2] at c1 q2
    replace hy := hid hy
    replace hz2 := hid hz2
    have e1 : ¬ y < 0 := by omega
    have e2 : ¬ B ≤ y := by omega
    have e3 : ¬ y ≤ z := by omega
    have e4 : (0 : Int) < (k : Int) := by omega
    have e5 : ((k : Int) - 1).toNat = k - 1 := by omega
    have e6 : (k : Int) - 1 < (n : Int) := by omega
    have e7 : (0 : Int) ≤ (k : Int) - 1 := by omega
    have e8 := Go.IntWalk.i64_in ((k : Int) - 1) (by omega)
    have e9 : k - 1 < n := by omega
    have e13 : 0 < k := by omega
    have e14 : (1 : Int) ≤ (k : Int) := by omega
    have e15 : 1 ≤ k := by omega
    have e10 : ¬ (k : Int) ≤ 0 := by omega
    have e11 : y < B := by omega
    have e12 : 0 ≤ y := by omega
    go_wp2_with fail
    obtain ⟨w3, rfl⟩ : ∃ w4 : World, w4 = wr := ⟨_, rfl⟩
    refine name_act (fun A_ hA_ => ?_)
    obtain ⟨Q2, hQ2⟩ : ∃ Q2 : Exit → Act → World → Prop, Q2 = fun e a' w' => e = .normal ∧ ∃ (v0_ v1_ v2_ v3_ v6_ v7_ v8_ v9_ v10_ v14_ v17_ v18_ v19_ v20_ v21_ v22_ v23_ v24_ v25_ : Value), a' = (((((((((((((((((((((((((((((A_.put (some 12) (v0_)).put (some 13) (v1_)).put (some 14) (v2_)).put (some 15) (v3_)).put (some 16) (.bool false)).put (some 17) (.bool false)).put (some 18) (v6_)).put (some 19) (v7_)).put (some 20) (v8_)).put (some 21) (v9_)).put (some 22) (v10_)).put (some 23) (.bool false)).put (some 24) (.bool false)).put (some 25) (.bool false)).put (some 26) (v14_)).put (some 27) (.bool true)).put (some 28) (.bool true)).put (some 29) (v17_)).put (some 30) (v18_)).put (some 31) (v19_)).put (some 32) (v20_)).put (some 33) (v21_)).put (some 34) (v22_)).put (some 35) (v23_)).put (some 36) (v24_)).put (some 37) (v25_)).put (some 38) (.bool false)).put (some 39) (.bool false)).put (some 40) (.bool false)) ∧ Ext w3 w' := ⟨_, rfl⟩
    have hpan : ∀ c a a' w w', Q2 (.panic c) a w → Q2 (.panic c) a' w' := by rw [hQ2]; rintro c a a' w w' ⟨h, _⟩; cases h
    replace hQ2 := hid hQ2
    refine wp_mono (Q := Q2) ?_ ?_
    ·subst hA_
     refine wp_region_held_drew (S := fun w' => Ext w3 w') (by kernel_rfl) (by repeat (with_reducible first | assumption | exact Ext.refl _ | refine Ext.drew ?_ | refine Ext.drewN ?_ _ | refine Ext.alloc ?_ _ | refine xS ?_ _ | refine xT ?_ (by assumption))) fun hHeld => ?_
     refine name_any (fun W0 hW => ?_)
     have s0 : Ext w3 W0 := by rw [hW]; exact hHeld
     clear hW hHeld
     refine tkA (i := 0) (v := ?_) rfl (fun c a w h => hpan c _ _ _ _ h) (Or.inl ⟨by rfl, ?yl⟩) (by assumption) ?_
     case yl => (intro w hSw; (try dsimp only at hSw); have k_0 := Ext.cell hSw c0; have k_1 := Ext.cell hSw c1; go_simp); with_reducible rfl
     try simp only [sxA, sxB, sxC, Act.put, sxD, sxE, sxF]
     refine tkA (i := 1) (v := ?_) rfl (fun c a w h => hpan c _ _ _ _ h) (Or.inl ⟨by rfl, ?yl⟩) (by assumption) ?_
     case yl => (intro w hSw; (try dsimp only at hSw); have k_0 := Ext.cell hSw c0; have k_1 := Ext.cell hSw c1; go_simp); with_reducible rfl
     try simp only [sxA, sxB, sxC, Act.put, sxD, sxE, sxF]
     refine tkA (i := 2) (v := ?_) rfl (fun c a w h => hpan c _ _ _ _ h) (Or.inl ⟨by rfl, ?yl⟩) (by assumption) ?_
     case yl => (intro w hSw; (try dsimp only at hSw); have k_0 := Ext.cell hSw c0; have k_1 := Ext.cell hSw c1; go_simp); with_reducible rfl
     try simp only [sxA, sxB, sxC, Act.put, sxD, sxE, sxF]
     refine tkA (i := 3) (v := ?_) rfl (fun c a w h => hpan c _ _ _ _ h) (Or.inl ⟨by rfl, ?yl⟩) (by assumption) ?_
     case yl => (intro w hSw; (try dsimp only at hSw); have k_0 := Ext.cell hSw c0; have k_1 := Ext.cell hSw c1; go_simp); with_reducible rfl
     try simp only [sxA, sxB, sxC, Act.put, sxD, sxE, sxF]
     refine tkA (i := 4) (v := .bool false) rfl (fun c a w h => hpan c _ _ _ _ h) (Or.inl ⟨by rfl, ?yl⟩) (by assumption) ?_
     case yl => (intro w hSw; (try dsimp only at hSw); have k_0 := Ext.cell hSw c0; have k_1 := Ext.cell hSw c1; go_simp; first | done | with_reducible rfl | (simp only [e1, e2, e3, e4, e13, e14]; done) | (simp [e1, e2, e3, e4, e13, e14]; done))
     try simp only [sxA, sxB, sxC, Act.put, sxD, sxE, sxF]
     refine tkA (i := 5) (v := .bool false) rfl (fun c a w h => hpan c _ _ _ _ h) (Or.inl ⟨by rfl, ?yl⟩) (by assumption) ?_
     case yl => (intro w hSw; (try dsimp only at hSw); have k_0 := Ext.cell hSw c0; have k_1 := Ext.cell hSw c1; go_simp; first | done | with_reducible rfl | (simp only [e1, e2, e3, e4, e13, e14]; done) | (simp [e1, e2, e3, e4, e13, e14]; done))
     try simp only [sxA, sxB, sxC, Act.put, sxD, sxE, sxF]
     refine tkA (i := 6) (v := ?_) rfl (fun c a w h => hpan c _ _ _ _ h) (Or.inl ⟨by rfl, ?yl⟩) (by assumption) ?_
     case yl => (intro w hSw; (try dsimp only at hSw); have k_0 := Ext.cell hSw c0; have k_1 := Ext.cell hSw c1; go_simp); with_reducible rfl
     try simp only [sxA, sxB, sxC, Act.put, sxD, sxE, sxF]
     refine tkA (i := 7) (v := ?_) rfl (fun c a w h => hpan c _ _ _ _ h) (Or.inl ⟨by rfl, ?yl⟩) (by assumption) ?_
     case yl => (intro w hSw; (try dsimp only at hSw); have k_0 := Ext.cell hSw c0; have k_1 := Ext.cell hSw c1; go_simp); with_reducible rfl
     try simp only [sxA, sxB, sxC, Act.put, sxD, sxE, sxF]
     refine tkA (i := 8) (v := ?_) rfl (fun c a w h => hpan c _ _ _ _ h) (Or.inl ⟨by rfl, ?yl⟩) (by assumption) ?_
     case yl => (intro w hSw; (try dsimp only at hSw); have k_0 := Ext.cell hSw c0; have k_1 := Ext.cell hSw c1; go_simp); with_reducible rfl
     try simp only [sxA, sxB, sxC, Act.put, sxD, sxE, sxF]
     refine tkA (i := 9) (v := ?_) rfl (fun c a w h => hpan c _ _ _ _ h) (Or.inl ⟨by rfl, ?yl⟩) (by assumption) ?_
     case yl => (intro w hSw; (try dsimp only at hSw); have k_0 := Ext.cell hSw c0; have k_1 := Ext.cell hSw c1; go_simp); with_reducible rfl
     try simp only [sxA, sxB, sxC, Act.put, sxD, sxE, sxF]
     refine tkA (i := 10) (v := ?_) rfl (fun c a w h => hpan c _ _ _ _ h) (Or.inl ⟨by rfl, ?yl⟩) (by assumption) ?_
     case yl => (intro w hSw; (try dsimp only at hSw); have k_0 := Ext.cell hSw c0; have k_1 := Ext.cell hSw c1; go_simp); with_reducible rfl
     try simp only [sxA, sxB, sxC, Act.put, sxD, sxE, sxF]
     refine tkA (i := 11) (v := .bool false) rfl (fun c a w h => hpan c _ _ _ _ h) (Or.inl ⟨by rfl, ?yl⟩) (by assumption) ?_
     case yl => (intro w hSw; (try dsimp only at hSw); have k_0 := Ext.cell hSw c0; have k_1 := Ext.cell hSw c1; go_simp; first | done | with_reducible rfl | (simp only [e1, e2, e3, e4, e13, e14]; done) | (simp [e1, e2, e3, e4, e13, e14]; done))
     try simp only [sxA, sxB, sxC, Act.put, sxD, sxE, sxF]
     refine tkA (i := 12) (v := .bool false) rfl (fun c a w h => hpan c _ _ _ _ h) (Or.inl ⟨by rfl, ?yl⟩) (by assumption) ?_
     case yl => (intro w hSw; (try dsimp only at hSw); have k_0 := Ext.cell hSw c0; have k_1 := Ext.cell hSw c1; go_simp; first | done | with_reducible rfl | (simp only [e1, e2, e3, e4, e13, e14]; done) | (simp [e1, e2, e3, e4, e13, e14]; done))
     try simp only [sxA, sxB, sxC, Act.put, sxD, sxE, sxF]
     refine tkA (i := 13) (v := .bool false) rfl (fun c a w h => hpan c _ _ _ _ h) (Or.inl ⟨by rfl, ?yl⟩) (by assumption) ?_
     case yl => (intro w hSw; (try dsimp only at hSw); have k_0 := Ext.cell hSw c0; have k_1 := Ext.cell hSw c1; go_simp; first | done | with_reducible rfl | (simp only [e1, e2, e3, e4, e13, e14]; done) | (simp [e1, e2, e3, e4, e13, e14]; done))
     try simp only [sxA, sxB, sxC, Act.put, sxD, sxE, sxF]
     refine tkA (i := 14) (v := ?_) rfl (fun c a w h => hpan c _ _ _ _ h) (Or.inl ⟨by rfl, ?yl⟩) (by assumption) ?_
     case yl => (intro w hSw; (try dsimp only at hSw); have k_0 := Ext.cell hSw c0; have k_1 := Ext.cell hSw c1; go_simp); with_reducible rfl
     try simp only [sxA, sxB, sxC, Act.put, sxD, sxE, sxF]
     refine tkA (i := 15) (v := .bool true) rfl (fun c a w h => hpan c _ _ _ _ h) (Or.inl ⟨by rfl, ?yl⟩) (by assumption) ?_
     case yl => (intro w hSw; (try dsimp only at hSw); have k_0 := Ext.cell hSw c0; have k_1 := Ext.cell hSw c1; go_simp; first | done | with_reducible rfl | (simp only [e1, e2, e3, e4, e13, e14]; done) | (simp [e1, e2, e3, e4, e13, e14]; done))
     try simp only [sxA, sxB, sxC, Act.put, sxD, sxE, sxF]
     refine tkA (i := 16) (v := .bool true) rfl (fun c a w h => hpan c _ _ _ _ h) (Or.inl ⟨by rfl, ?yl⟩) (by assumption) ?_
     case yl => (intro w hSw; (try dsimp only at hSw); have k_0 := Ext.cell hSw c0; have k_1 := Ext.cell hSw c1; go_simp; first | done | with_reducible rfl | (simp only [e1, e2, e3, e4, e13, e14]; done) | (simp [e1, e2, e3, e4, e13, e14]; done))
     try simp only [sxA, sxB, sxC, Act.put, sxD, sxE, sxF]
     refine tkA (i := 17) (v := ?_) rfl (fun c a w h => hpan c _ _ _ _ h) (Or.inl ⟨by rfl, ?yl⟩) (by assumption) ?_
     case yl => (intro w hSw; (try dsimp only at hSw); have k_0 := Ext.cell hSw c0; have k_1 := Ext.cell hSw c1; go_simp); with_reducible rfl
     try simp only [sxA, sxB, sxC, Act.put, sxD, sxE, sxF]
     refine tkA (i := 18) (v := ?_) rfl (fun c a w h => hpan c _ _ _ _ h) (Or.inl ⟨by rfl, ?yl⟩) (by assumption) ?_
     case yl => (intro w hSw; (try dsimp only at hSw); have k_0 := Ext.cell hSw c0; have k_1 := Ext.cell hSw c1; go_simp); with_reducible rfl
     try simp only [sxA, sxB, sxC, Act.put, sxD, sxE, sxF]
     refine tkA (i := 19) (v := ?_) rfl (fun c a w h => hpan c _ _ _ _ h) (Or.inl ⟨by rfl, ?yl⟩) (by assumption) ?_
     case yl => (intro w hSw; (try dsimp only at hSw); have k_0 := Ext.cell hSw c0; have k_1 := Ext.cell hSw c1; go_simp); with_reducible rfl
     try simp only [sxA, sxB, sxC, Act.put, sxD, sxE, sxF]
     refine tkA (i := 20) (v := ?_) rfl (fun c a w h => hpan c _ _ _ _ h) (Or.inl ⟨by rfl, ?yl⟩) (by assumption) ?_
     case yl => (intro w hSw; (try dsimp only at hSw); have k_0 := Ext.cell hSw c0; have k_1 := Ext.cell hSw c1; go_simp); with_reducible rfl
     try simp only [sxA, sxB, sxC, Act.put, sxD, sxE, sxF]
     refine tkA (i := 21) (v := ?_) rfl (fun c a w h => hpan c _ _ _ _ h) (Or.inl ⟨by rfl, ?yl⟩) (by assumption) ?_
     case yl => (intro w hSw; (try dsimp only at hSw); have k_0 := Ext.cell hSw c0; have k_1 := Ext.cell hSw c1; go_simp); with_reducible rfl
     try simp only [sxA, sxB, sxC, Act.put, sxD, sxE, sxF]
     refine tkA (i := 22) (v := ?_) rfl (fun c a w h => hpan c _ _ _ _ h) (Or.inl ⟨by rfl, ?yl⟩) (by assumption) ?_
     case yl => (intro w hSw; (try dsimp only at hSw); have k_0 := Ext.cell hSw c0; have k_1 := Ext.cell hSw c1; go_simp); with_reducible rfl
     try simp only [sxA, sxB, sxC, Act.put, sxD, sxE, sxF]
     refine tkA (i := 23) (v := ?_) rfl (fun c a w h => hpan c _ _ _ _ h) (Or.inl ⟨by rfl, ?yl⟩) (by assumption) ?_
     case yl => (intro w hSw; (try dsimp only at hSw); have k_0 := Ext.cell hSw c0; have k_1 := Ext.cell hSw c1; go_simp); with_reducible rfl
     try simp only [sxA, sxB, sxC, Act.put, sxD, sxE, sxF]
     refine tkA (i := 24) (v := ?_) rfl (fun c a w h => hpan c _ _ _ _ h) (Or.inl ⟨by rfl, ?yl⟩) (by assumption) ?_
     case yl => (intro w hSw; (try dsimp only at hSw); have k_0 := Ext.cell hSw c0; have k_1 := Ext.cell hSw c1; go_simp); with_reducible rfl
     try simp only [sxA, sxB, sxC, Act.put, sxD, sxE, sxF]
     refine tkA (i := 25) (v := ?_) rfl (fun c a w h => hpan c _ _ _ _ h) (Or.inl ⟨by rfl, ?yl⟩) (by assumption) ?_
     case yl => (intro w hSw; (try dsimp only at hSw); have k_0 := Ext.cell hSw c0; have k_1 := Ext.cell hSw c1; go_simp); with_reducible rfl
     try simp only [sxA, sxB, sxC, Act.put, sxD, sxE, sxF]
     refine tkA (i := 26) (v := .bool false) rfl (fun c a w h => hpan c _ _ _ _ h) (Or.inl ⟨by rfl, ?yl⟩) (by assumption) ?_
     case yl => (intro w hSw; (try dsimp only at hSw); have k_0 := Ext.cell hSw c0; have k_1 := Ext.cell hSw c1; go_simp; first | done | with_reducible rfl | (simp only [e1, e2, e3, e4, e13, e14]; done) | (simp [e1, e2, e3, e4, e13, e14]; done))
     try simp only [sxA, sxB, sxC, Act.put, sxD, sxE, sxF]
     refine tkA (i := 27) (v := .bool false) rfl (fun c a w h => hpan c _ _ _ _ h) (Or.inl ⟨by rfl, ?yl⟩) (by assumption) ?_
     case yl => (intro w hSw; (try dsimp only at hSw); have k_0 := Ext.cell hSw c0; have k_1 := Ext.cell hSw c1; go_simp; first | done | with_reducible rfl | (simp only [e1, e2, e3, e4, e13, e14]; done) | (simp [e1, e2, e3, e4, e13, e14]; done))
     try simp only [sxA, sxB, sxC, Act.put, sxD, sxE, sxF]
     refine tkA (i := 28) (v := .bool false) rfl (fun c a w h => hpan c _ _ _ _ h) (Or.inl ⟨by rfl, ?yl⟩) (by assumption) ?_
     case yl => (intro w hSw; (try dsimp only at hSw); have k_0 := Ext.cell hSw c0; have k_1 := Ext.cell hSw c1; go_simp; first | done | with_reducible rfl | (simp only [e1, e2, e3, e4, e13, e14]; done) | (simp [e1, e2, e3, e4, e13, e14]; done))
     try simp only [sxA, sxB, sxC, Act.put, sxD, sxE, sxF]
     refine wpAnyH_done (by kernel_rfl) ?_ _
     try simp only [sxA, sxB, sxC, Act.put, sxD, sxE, sxF]
     rw [hQ2.out]
     refine ⟨rfl, ?u2_0_1, ?u2_1_1, ?u2_2_1, ?u2_3_1, ?u2_4_1, ?u2_5_1, ?u2_6_1, ?u2_7_1, ?u2_8_1, ?u2_9_1, ?u2_10_1, ?u2_11_1, ?u2_12_1, ?u2_13_1, ?u2_14_1, ?u2_15_1, ?u2_16_1, ?u2_17_1, ?u2_18_1, ?eq2_1, s0⟩
     case eq2_1 => ((try simp only [sxA, sxB, sxC, Act.put, sxD, sxE, sxF]); first | done | with_reducible rfl | rfl)
    rw [hQ2.out]
    rintro e a' w4 ⟨rfl, v0_, v1_, v2_, v3_, v6_, v7_, v8_, v9_, v10_, v14_, v17_, v18_, v19_, v20_, v21_, v22_, v23_, v24_, v25_, rfl, x⟩
    clear hQ2 hpan; clear Q2
    subst hA_
    simp only [sxA, sxB, sxC, Act.put, sxD, sxE, sxF]
    go_wp2_with fail
    go_roundw
    case rel => exact ⟨k + 1, by omega, by go_num, hid (hx.out.trans x)⟩
    case measure => simp [intOf]; omega
  ·have hkm : k = n := by omega
   have hnl : ¬ (k : Int) < (n : Int) := by omega
   clear hkm
   go_wp2_with fail
   go_ret
   exact ⟨rfl, hx.out.trans (by repeat (with_reducible first | assumption | exact Ext.refl _ | refine Ext.drew ?_ | refine Ext.drewN ?_ _ | refine Ext.alloc ?_ _ | refine xS ?_ _ | refine xT ?_ (by assumption)))⟩

end Go.Proofs.Ytommhgcgaclflaa
