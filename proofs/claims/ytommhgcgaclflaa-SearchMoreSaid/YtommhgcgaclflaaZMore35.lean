/- Texts of one proof, laid together: Lng, Lw. -/
import Derived.Test.YtommhgcgaclflaaTH
import Derived.Test.YtommhgcgaclflaaZB14
import Derived.Test.YtommhgcgaclflaaZB12
import Derived.Test.YtommhgcgaclflaaZB7
import Derived.Test.YtommhgcgaclflaaZB23
import Derived.Test.YtommhgcgaclflaaZB15
namespace Go.Proofs.Ytommhgcgaclflaa
set_option linter.unusedVariables false
set_option linter.unusedSimpArgs false
set_option linter.unusedSectionVars false
set_option linter.unnecessarySimpa false
open Go Go.RowKit Game
theorem longC_any (p : List Int) (hl : p.length ≤ 9223372036854775807) (a : Option Addr) (cap : Nat) (b : Bool) (hb : decide (8 < p.length) = b) (w : World) : Calls Try.prog 17 #[.slice a p.length cap] w fun e w' => e = .returned (.bool b) ∧ Ext w w' := by
 subst hb; exact long_any p hl a cap w

end Go.Proofs.Ytommhgcgaclflaa
namespace Go.Proofs.Ytommhgcgaclflaa
set_option linter.unusedVariables false
set_option linter.unusedSimpArgs false
set_option linter.unusedSectionVars false
set_option linter.unnecessarySimpa false
open Go Go.RowKit Game
set_option maxRecDepth 100000

theorem fine_grt {t : List (List Int)} (h : chkT t = 0) : grtT t = false := by
 have v := chkT_ok.1 h
 have h1 := mxl_le (t := t) (B := 4) (n := t.length) fun i hi => by rw [v.eq i hi]; exact v.n4
 have m4 := v.m4
 unfold grtT
 exact decide_eq_false (by omega)
set_option maxHeartbeats 1000000 in
theorem fineL_any (t : List (List Int)) (q : FitT t) (a : Option Addr) (cap : Nat) (w : World) (hT : Tab w a t) (hl : t.length ≤ 9223372036854775807) (hw : ∀ i, (row t i).length ≤ 9223372036854775807) :
 Calls Try.prog 40 #[(.agg #[.slice a t.length cap])] w fun e w' => e = .returned (.bool (decide (chkT t = 0))) ∧ Ext w w' := by
 have hT' := hid hT
 have hgr := hid (fun W hW => great_any t a cap W hW hl hw)
 cases g : grtT t with
 | true =>
  rw [g] at hgr
  have hn : chkT t ≠ 0 := fun h => by rw [fine_grt h] at g; cases g
  rw [decide_eq_false hn]
  clear hT hw hl hn
  go_enter Try.func40, Try.ntmps40
  go_wp2_with fail
  refine (hgr.out _ (hT'.out.ext (by repeat (with_reducible first | assumption | exact Ext.refl _ | refine Ext.drew ?_ | refine Ext.drewN ?_ _ | refine Ext.alloc ?_ _ | refine xS ?_ _ | refine xT ?_ (by assumption))))).mono ?_; rintro e w1 ⟨rfl, hE⟩
  go_wp2_with fail
  go_ret
  exact ⟨rfl, (by repeat (with_reducible first | assumption | exact Ext.refl _ | refine Ext.drew ?_ | refine Ext.drewN ?_ _ | refine Ext.alloc ?_ _ | refine xS ?_ _ | refine xT ?_ (by assumption)))⟩
 | false =>
  rw [g] at hgr
  obtain ⟨hl8, hw8⟩ := grt_no g
  have hck := hid (fun W hW => checkTableR_any t q a cap W hW (by omega) (fun i => by have := hw8 i; omega))
  obtain ⟨ck, hc⟩ : ∃ c, chkT t = c := ⟨_, rfl⟩
  rw [hc] at hck ⊢
  clear hT hw hl hl8 hw8 hc
  go_enter Try.func40, Try.ntmps40
  go_wp2_with fail
  refine (hgr.out _ (hT'.out.ext (by repeat (with_reducible first | assumption | exact Ext.refl _ | refine Ext.drew ?_ | refine Ext.drewN ?_ _ | refine Ext.alloc ?_ _ | refine xS ?_ _ | refine xT ?_ (by assumption))))).mono ?_; rintro e w1 ⟨rfl, hE⟩
  have m0 := hE.cell (p := ⟨w.heap.size, 0, none⟩) (v := .slice a t.length cap) (by simp [go_sem])
  go_wp2_with fail
  refine (hck.out _ (hT'.out.ext (by repeat (with_reducible first | assumption | exact Ext.refl _ | refine Ext.drew ?_ | refine Ext.drewN ?_ _ | refine Ext.alloc ?_ _ | refine xS ?_ _ | refine xT ?_ (by assumption))))).mono ?_; rintro e w2 ⟨rfl, hE2⟩
  go_wp2_with fail
  go_ret
  exact ⟨by by_cases h : ck = 0 <;> simp [h], (by repeat (with_reducible first | assumption | exact Ext.refl _ | refine Ext.drew ?_ | refine Ext.drewN ?_ _ | refine Ext.alloc ?_ _ | refine xS ?_ _ | refine xT ?_ (by assumption)))⟩

set_option maxHeartbeats 4000000 in
theorem smallL_any (a b : Int) (h1 : 1 ≤ b) (h2 : b ≤ 400000000) (h3 : -100 * b ≤ a) (h4 : a ≤ 100 * b) (e1 : ratN a b = a) (e2 : ratD a b = b) (w : World) :
 Calls Try.prog 43 #[.agg #[.int .i64 a, .int .i64 b]] w fun e w' => e = .returned (.bool true) ∧ Ext w w' := by
 have hby := hid (fun W => byR_any a b (by omega) (by omega) (by omega) (by omega) W)
 rw [e1, e2] at hby
 have z1 := Go.IntWalk.i64_in (-100 * b) (by omega)
 have z2 := Go.IntWalk.i64_in (100 * b) (by omega)
 have eS : ∀ w, (Op.equalIn 10000 30 (.agg #[.int .i64 a, .int .i64 b]) (.agg #[.int .i64 a, .int .i64 b])).run Try.prog w = .ok true w := fun w => by rw [run_eqRatio]; simp
 clear e1 e2
 go_enter Try.func43, Try.ntmps43
 go_wp2_with fail
 refine name_wp (fun w1 hw1 => ?_)
 have X := hid (show Ext w w1 from by rw [hw1]; exact (by repeat (with_reducible first | assumption | exact Ext.refl _ | refine Ext.drew ?_ | refine Ext.drewN ?_ _ | refine Ext.alloc ?_ _ | refine xS ?_ _ | refine xT ?_ (by assumption))))
 have c0 : w1.cell? ⟨w.heap.size, 0, none⟩ = some (.int .i64 a) := by rw [hw1]; simp [go_sem]
 have c1 : w1.cell? ⟨w.heap.size, 1, none⟩ = some (.int .i64 b) := by rw [hw1]; simp [go_sem]
 clear hw1
 obtain ⟨Bx, hBx⟩ : ∃ B, w.heap.size = B := ⟨_, rfl⟩
 rw [hBx] at c0 c1 ⊢
 replace hBx := hid hBx
 refine name_act (fun A_ hA_ => ?_)
 obtain ⟨Q2, hQ2⟩ : ∃ Q2 : Exit → Act → World → Prop, Q2 = fun e a' w' => e = .normal ∧ ∃ (v0_ v1_ v4_ v5_ v9_ v10_ v11_ v12_ v13_ v17_ v18_ v19_ v20_ v21_ v25_ v26_ v27_ v28_ v30_ : Value), a' = ((((((((((((((((((((((((((((((((((A_.put (some 3) (v0_)).put (some 4) (v1_)).put (some 5) (.bool true)).put (some 6) (.bool true)).put (some 7) (v4_)).put (some 8) (v5_)).put (some 9) (.bool true)).put (some 10) (.bool true)).put (some 11) (.bool true)).put (some 12) (v9_)).put (some 13) (v10_)).put (some 14) (v11_)).put (some 15) (v12_)).put (some 16) (v13_)).put (some 17) (.bool true)).put (some 18) (.bool true)).put (some 19) (.bool true)).put (some 20) (v17_)).put (some 21) (v18_)).put (some 22) (v19_)).put (some 23) (v20_)).put (some 24) (v21_)).put (some 25) (.bool true)).put (some 26) (.bool true)).put (some 27) (.bool true)).put (some 28) (v25_)).put (some 29) (v26_)).put (some 30) (v27_)).put (some 31) (v28_)).put (some 32) (.agg #[.int .i64 a, .int .i64 b])).put (some 33) (v30_)).put (some 34) (.bool true)).put (some 35) (.bool true)).put (some 2) (.bool true)) ∧ Ext w1 w' := ⟨_, rfl⟩
 have hpan : ∀ c a a' w w', Q2 (.panic c) a w → Q2 (.panic c) a' w' := by rw [hQ2]; rintro c a a' w w' ⟨h, _⟩; cases h
 replace hQ2 := hid hQ2
 refine wp_mono (Q := Q2) ?_ ?_
 ·subst hA_
  refine wp_region_held_drew (S := fun w' => Ext w1 w') (by kernel_rfl) (by repeat (with_reducible first | assumption | exact Ext.refl _ | refine Ext.drew ?_ | refine Ext.drewN ?_ _ | refine Ext.alloc ?_ _ | refine xS ?_ _ | refine xT ?_ (by assumption))) fun hHeld => ?_
  refine name_any (fun W0 hW => ?_)
  have s0 : Ext w1 W0 := by rw [hW]; exact hHeld
  clear hW hHeld
  refine tkA (i := 0) (v := ?_) rfl (fun c a w h => hpan c _ _ _ _ h) (Or.inl ⟨by rfl, ?yl⟩) (by assumption) ?_
  case yl => (intro w hSw; (try dsimp only at hSw); have k_0 := Ext.cell hSw c0; have k_1 := Ext.cell hSw c1; go_simp); with_reducible rfl
  try simp only [sxA, sxB, sxC, Act.put, sxD, sxE, sxF]
  refine tkA (i := 1) (v := ?_) rfl (fun c a w h => hpan c _ _ _ _ h) (Or.inl ⟨by rfl, ?yl⟩) (by assumption) ?_
  case yl => (intro w hSw; (try dsimp only at hSw); have k_0 := Ext.cell hSw c0; have k_1 := Ext.cell hSw c1; go_simp); with_reducible rfl
  try simp only [sxA, sxB, sxC, Act.put, sxD, sxE, sxF]
  refine tkA (i := 2) (v := .bool true) rfl (fun c a w h => hpan c _ _ _ _ h) (Or.inl ⟨by rfl, ?yl⟩) (by assumption) ?_
  case yl => (intro w hSw; (try dsimp only at hSw); have k_0 := Ext.cell hSw c0; have k_1 := Ext.cell hSw c1; go_simp; first | done | with_reducible rfl | (simp only [h1, h2, h3, h4]; done) | (simp [h1, h2, h3, h4]; done))
  try simp only [sxA, sxB, sxC, Act.put, sxD, sxE, sxF]
  refine tkA (i := 3) (v := .bool true) rfl (fun c a w h => hpan c _ _ _ _ h) (Or.inl ⟨by rfl, ?yl⟩) (by assumption) ?_
  case yl => (intro w hSw; (try dsimp only at hSw); have k_0 := Ext.cell hSw c0; have k_1 := Ext.cell hSw c1; go_simp; first | done | with_reducible rfl | (simp only [h1, h2, h3, h4]; done) | (simp [h1, h2, h3, h4]; done))
  try simp only [sxA, sxB, sxC, Act.put, sxD, sxE, sxF]
  refine tkA (i := 4) (v := ?_) rfl (fun c a w h => hpan c _ _ _ _ h) (Or.inl ⟨by rfl, ?yl⟩) (by assumption) ?_
  case yl => (intro w hSw; (try dsimp only at hSw); have k_0 := Ext.cell hSw c0; have k_1 := Ext.cell hSw c1; go_simp); with_reducible rfl
  try simp only [sxA, sxB, sxC, Act.put, sxD, sxE, sxF]
  refine tkA (i := 5) (v := ?_) rfl (fun c a w h => hpan c _ _ _ _ h) (Or.inl ⟨by rfl, ?yl⟩) (by assumption) ?_
  case yl => (intro w hSw; (try dsimp only at hSw); have k_0 := Ext.cell hSw c0; have k_1 := Ext.cell hSw c1; go_simp); with_reducible rfl
  try simp only [sxA, sxB, sxC, Act.put, sxD, sxE, sxF]
  refine tkA (i := 6) (v := .bool true) rfl (fun c a w h => hpan c _ _ _ _ h) (Or.inl ⟨by rfl, ?yl⟩) (by assumption) ?_
  case yl => (intro w hSw; (try dsimp only at hSw); have k_0 := Ext.cell hSw c0; have k_1 := Ext.cell hSw c1; go_simp; first | done | with_reducible rfl | (simp only [h1, h2, h3, h4]; done) | (simp [h1, h2, h3, h4]; done))
  try simp only [sxA, sxB, sxC, Act.put, sxD, sxE, sxF]
  refine tkA (i := 7) (v := .bool true) rfl (fun c a w h => hpan c _ _ _ _ h) (Or.inl ⟨by rfl, ?yl⟩) (by assumption) ?_
  case yl => (intro w hSw; (try dsimp only at hSw); have k_0 := Ext.cell hSw c0; have k_1 := Ext.cell hSw c1; go_simp; first | done | with_reducible rfl | (simp only [h1, h2, h3, h4]; done) | (simp [h1, h2, h3, h4]; done))
  try simp only [sxA, sxB, sxC, Act.put, sxD, sxE, sxF]
  refine tkA (i := 8) (v := .bool true) rfl (fun c a w h => hpan c _ _ _ _ h) (Or.inl ⟨by rfl, ?yl⟩) (by assumption) ?_
  case yl => (intro w hSw; (try dsimp only at hSw); have k_0 := Ext.cell hSw c0; have k_1 := Ext.cell hSw c1; go_simp; first | done | with_reducible rfl | (simp only [h1, h2, h3, h4]; done) | (simp [h1, h2, h3, h4]; done))
  try simp only [sxA, sxB, sxC, Act.put, sxD, sxE, sxF]
  refine tkA (i := 9) (v := ?_) rfl (fun c a w h => hpan c _ _ _ _ h) (Or.inl ⟨by rfl, ?yl⟩) (by assumption) ?_
  case yl => (intro w hSw; (try dsimp only at hSw); have k_0 := Ext.cell hSw c0; have k_1 := Ext.cell hSw c1; go_simp); with_reducible rfl
  try simp only [sxA, sxB, sxC, Act.put, sxD, sxE, sxF]
  refine tkA (i := 10) (v := ?_) rfl (fun c a w h => hpan c _ _ _ _ h) (Or.inl ⟨by rfl, ?yl⟩) (by assumption) ?_
  case yl => (intro w hSw; (try dsimp only at hSw); have k_0 := Ext.cell hSw c0; have k_1 := Ext.cell hSw c1; go_simp); with_reducible rfl
  try simp only [sxA, sxB, sxC, Act.put, sxD, sxE, sxF]
  refine tkA (i := 11) (v := ?_) rfl (fun c a w h => hpan c _ _ _ _ h) (Or.inl ⟨by rfl, ?yl⟩) (by assumption) ?_
  case yl => (intro w hSw; (try dsimp only at hSw); have k_0 := Ext.cell hSw c0; have k_1 := Ext.cell hSw c1; go_simp); with_reducible rfl
  try simp only [sxA, sxB, sxC, Act.put, sxD, sxE, sxF]
  refine tkA (i := 12) (v := ?_) rfl (fun c a w h => hpan c _ _ _ _ h) (Or.inl ⟨by rfl, ?yl⟩) (by assumption) ?_
  case yl => (intro w hSw; (try dsimp only at hSw); have k_0 := Ext.cell hSw c0; have k_1 := Ext.cell hSw c1; go_simp); with_reducible rfl
  try simp only [sxA, sxB, sxC, Act.put, sxD, sxE, sxF]
  refine tkA (i := 13) (v := ?_) rfl (fun c a w h => hpan c _ _ _ _ h) (Or.inl ⟨by rfl, ?yl⟩) (by assumption) ?_
  case yl => (intro w hSw; (try dsimp only at hSw); have k_0 := Ext.cell hSw c0; have k_1 := Ext.cell hSw c1; go_simp); with_reducible rfl
  try simp only [sxA, sxB, sxC, Act.put, sxD, sxE, sxF]
  refine tkA (i := 14) (v := .bool true) rfl (fun c a w h => hpan c _ _ _ _ h) (Or.inl ⟨by rfl, ?yl⟩) (by assumption) ?_
  case yl => (intro w hSw; (try dsimp only at hSw); have k_0 := Ext.cell hSw c0; have k_1 := Ext.cell hSw c1; go_simp; first | done | with_reducible rfl | (simp only [h1, h2, h3, h4]; done) | (simp [h1, h2, h3, h4]; done))
  try simp only [sxA, sxB, sxC, Act.put, sxD, sxE, sxF]
  refine tkA (i := 15) (v := .bool true) rfl (fun c a w h => hpan c _ _ _ _ h) (Or.inl ⟨by rfl, ?yl⟩) (by assumption) ?_
  case yl => (intro w hSw; (try dsimp only at hSw); have k_0 := Ext.cell hSw c0; have k_1 := Ext.cell hSw c1; go_simp; first | done | with_reducible rfl | (simp only [h1, h2, h3, h4]; done) | (simp [h1, h2, h3, h4]; done))
  try simp only [sxA, sxB, sxC, Act.put, sxD, sxE, sxF]
  refine tkA (i := 16) (v := .bool true) rfl (fun c a w h => hpan c _ _ _ _ h) (Or.inl ⟨by rfl, ?yl⟩) (by assumption) ?_
  case yl => (intro w hSw; (try dsimp only at hSw); have k_0 := Ext.cell hSw c0; have k_1 := Ext.cell hSw c1; go_simp; first | done | with_reducible rfl | (simp only [h1, h2, h3, h4]; done) | (simp [h1, h2, h3, h4]; done))
  try simp only [sxA, sxB, sxC, Act.put, sxD, sxE, sxF]
  refine tkA (i := 17) (v := ?_) rfl (fun c a w h => hpan c _ _ _ _ h) (Or.inl ⟨by rfl, ?yl⟩) (by assumption) ?_
  case yl => (intro w hSw; (try dsimp only at hSw); have k_0 := Ext.cell hSw c0; have k_1 := Ext.cell hSw c1; go_simp); with_reducible rfl
  try simp only [sxA, sxB, sxC, Act.put, sxD, sxE, sxF]
  refine tkA (i := 18) (v := ?_) rfl (fun c a w h => hpan c _ _ _ _ h) (Or.inl ⟨by rfl, ?yl⟩) (by assumption) ?_
  case yl => (intro w hSw; (try dsimp only at hSw); have k_0 := Ext.cell hSw c0; have k_1 := Ext.cell hSw c1; go_simp); with_reducible rfl
  try simp only [sxA, sxB, sxC, Act.put, sxD, sxE, sxF]
  refine tkA (i := 19) (v := ?_) rfl (fun c a w h => hpan c _ _ _ _ h) (Or.inl ⟨by rfl, ?yl⟩) (by assumption) ?_
  case yl => (intro w hSw; (try dsimp only at hSw); have k_0 := Ext.cell hSw c0; have k_1 := Ext.cell hSw c1; go_simp); with_reducible rfl
  try simp only [sxA, sxB, sxC, Act.put, sxD, sxE, sxF]
  refine tkA (i := 20) (v := ?_) rfl (fun c a w h => hpan c _ _ _ _ h) (Or.inl ⟨by rfl, ?yl⟩) (by assumption) ?_
  case yl => (intro w hSw; (try dsimp only at hSw); have k_0 := Ext.cell hSw c0; have k_1 := Ext.cell hSw c1; go_simp); with_reducible rfl
  try simp only [sxA, sxB, sxC, Act.put, sxD, sxE, sxF]
  refine tkA (i := 21) (v := ?_) rfl (fun c a w h => hpan c _ _ _ _ h) (Or.inl ⟨by rfl, ?yl⟩) (by assumption) ?_
  case yl => (intro w hSw; (try dsimp only at hSw); have k_0 := Ext.cell hSw c0; have k_1 := Ext.cell hSw c1; go_simp); with_reducible rfl
  try simp only [sxA, sxB, sxC, Act.put, sxD, sxE, sxF]
  refine tkA (i := 22) (v := .bool true) rfl (fun c a w h => hpan c _ _ _ _ h) (Or.inl ⟨by rfl, ?yl⟩) (by assumption) ?_
  case yl => (intro w hSw; (try dsimp only at hSw); have k_0 := Ext.cell hSw c0; have k_1 := Ext.cell hSw c1; go_simp; first | done | with_reducible rfl | (simp only [h1, h2, h3, h4]; done) | (simp [h1, h2, h3, h4]; done))
  try simp only [sxA, sxB, sxC, Act.put, sxD, sxE, sxF]
  refine tkA (i := 23) (v := .bool true) rfl (fun c a w h => hpan c _ _ _ _ h) (Or.inl ⟨by rfl, ?yl⟩) (by assumption) ?_
  case yl => (intro w hSw; (try dsimp only at hSw); have k_0 := Ext.cell hSw c0; have k_1 := Ext.cell hSw c1; go_simp; first | done | with_reducible rfl | (simp only [h1, h2, h3, h4]; done) | (simp [h1, h2, h3, h4]; done))
  try simp only [sxA, sxB, sxC, Act.put, sxD, sxE, sxF]
  refine tkA (i := 24) (v := .bool true) rfl (fun c a w h => hpan c _ _ _ _ h) (Or.inl ⟨by rfl, ?yl⟩) (by assumption) ?_
  case yl => (intro w hSw; (try dsimp only at hSw); have k_0 := Ext.cell hSw c0; have k_1 := Ext.cell hSw c1; go_simp; first | done | with_reducible rfl | (simp only [h1, h2, h3, h4]; done) | (simp [h1, h2, h3, h4]; done))
  try simp only [sxA, sxB, sxC, Act.put, sxD, sxE, sxF]
  refine tkA (i := 25) (v := ?_) rfl (fun c a w h => hpan c _ _ _ _ h) (Or.inl ⟨by rfl, ?yl⟩) (by assumption) ?_
  case yl => (intro w hSw; (try dsimp only at hSw); have k_0 := Ext.cell hSw c0; have k_1 := Ext.cell hSw c1; go_simp); with_reducible rfl
  try simp only [sxA, sxB, sxC, Act.put, sxD, sxE, sxF]
  refine tkA (i := 26) (v := ?_) rfl (fun c a w h => hpan c _ _ _ _ h) (Or.inl ⟨by rfl, ?yl⟩) (by assumption) ?_
  case yl => (intro w hSw; (try dsimp only at hSw); have k_0 := Ext.cell hSw c0; have k_1 := Ext.cell hSw c1; go_simp); with_reducible rfl
  try simp only [sxA, sxB, sxC, Act.put, sxD, sxE, sxF]
  refine tkA (i := 27) (v := ?_) rfl (fun c a w h => hpan c _ _ _ _ h) (Or.inl ⟨by rfl, ?yl⟩) (by assumption) ?_
  case yl => (intro w hSw; (try dsimp only at hSw); have k_0 := Ext.cell hSw c0; have k_1 := Ext.cell hSw c1; go_simp); with_reducible rfl
  try simp only [sxA, sxB, sxC, Act.put, sxD, sxE, sxF]
  refine tkA (i := 28) (v := ?_) rfl (fun c a w h => hpan c _ _ _ _ h) (Or.inl ⟨by rfl, ?yl⟩) (by assumption) ?_
  case yl => (intro w hSw; (try dsimp only at hSw); have k_0 := Ext.cell hSw c0; have k_1 := Ext.cell hSw c1; go_simp); with_reducible rfl
  try simp only [sxA, sxB, sxC, Act.put, sxD, sxE, sxF]
  refine tkA (i := 30) (v := ?_) rfl (fun c a w h => hpan c _ _ _ _ h) (Or.inl ⟨by rfl, ?yl⟩) (by assumption) ?_
  case yl => (intro w hSw; (try dsimp only at hSw); have k_0 := Ext.cell hSw c0; have k_1 := Ext.cell hSw c1; go_simp); with_reducible rfl
  try simp only [sxA, sxB, sxC, Act.put, sxD, sxE, sxF]
  refine wpAnyH_ready (rs := [29]) (by kernel_rfl) (by simp) ?_
  refine AllReadyH.cons (o := _) rfl (fun K hK => ?_) AllReadyH.nil
  go_simp
  refine (hby.out _).mono ?_; rintro e W1 ⟨rfl, e1⟩
  have s1 := s0.trans e1
  refine hK.out _ _ s1 (fun _ => ?_)
  clear hK K
  (try simp only [sxA, sxB, sxC, Act.put, sxD, sxE, sxF])
  refine tkA (i := 31) (v := .bool true) rfl (fun c a w h => hpan c _ _ _ _ h) (Or.inl ⟨by rfl, ?yl⟩) (by assumption) ?_
  case yl => (intro w hSw; (try dsimp only at hSw); have k_0 := Ext.cell hSw c0; have k_1 := Ext.cell hSw c1; go_simp; first | done | with_reducible rfl | (simp only [h1, h2, h3, h4]; done) | (simp [h1, h2, h3, h4]; done))
  try simp only [sxA, sxB, sxC, Act.put, sxD, sxE, sxF]
  refine tkA (i := 32) (v := .bool true) rfl (fun c a w h => hpan c _ _ _ _ h) (Or.inl ⟨by rfl, ?yl⟩) (by assumption) ?_
  case yl => (intro w hSw; (try dsimp only at hSw); have k_0 := Ext.cell hSw c0; have k_1 := Ext.cell hSw c1; go_simp; first | done | with_reducible rfl | (simp only [h1, h2, h3, h4]; done) | (simp [h1, h2, h3, h4]; done))
  try simp only [sxA, sxB, sxC, Act.put, sxD, sxE, sxF]
  refine tkA (i := 33) (v := .bool true) rfl (fun c a w h => hpan c _ _ _ _ h) (Or.inl ⟨by rfl, ?yl⟩) (by assumption) ?_
  case yl => (intro w hSw; (try dsimp only at hSw); have k_0 := Ext.cell hSw c0; have k_1 := Ext.cell hSw c1; go_simp; first | done | with_reducible rfl | (simp only [h1, h2, h3, h4]; done) | (simp [h1, h2, h3, h4]; done))
  try simp only [sxA, sxB, sxC, Act.put, sxD, sxE, sxF]
  refine wpAnyH_done (by kernel_rfl) ?_ _
  try simp only [sxA, sxB, sxC, Act.put, sxD, sxE, sxF]
  rw [hQ2.out]
  refine ⟨rfl, ?u1_0_1, ?u1_1_1, ?u1_2_1, ?u1_3_1, ?u1_4_1, ?u1_5_1, ?u1_6_1, ?u1_7_1, ?u1_8_1, ?u1_9_1, ?u1_10_1, ?u1_11_1, ?u1_12_1, ?u1_13_1, ?u1_14_1, ?u1_15_1, ?u1_16_1, ?u1_17_1, ?u1_18_1, ?eq1_1, s1⟩
  case eq1_1 => ((try simp only [sxA, sxB, sxC, Act.put, sxD, sxE, sxF]); first | done | with_reducible rfl | rfl)
 rw [hQ2.out]
 rintro e a' w2 ⟨rfl, v0_, v1_, v4_, v5_, v9_, v10_, v11_, v12_, v13_, v17_, v18_, v19_, v20_, v21_, v25_, v26_, v27_, v28_, v30_, rfl, x⟩
 clear hQ2 hpan; clear Q2
 subst hA_
 simp only [sxA, sxB, sxC, Act.put, sxD, sxE, sxF]
 go_wp2_with fail
 go_ret
 exact ⟨rfl, X.out.trans x⟩

end Go.Proofs.Ytommhgcgaclflaa
