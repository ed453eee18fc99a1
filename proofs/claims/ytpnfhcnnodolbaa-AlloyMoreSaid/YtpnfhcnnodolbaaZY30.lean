/- Texts of one proof, laid together: Qf, Prd. -/
import Derived.Test.YtpnfhcnnodolbaaZY10
import Derived.Test.YtpnfhcnnodolbaaZY21
import Derived.Test.YtpnfhcnnodolbaaZY28
import Derived.Test.YtpnfhcnnodolbaaZY17
import Derived.Test.YtpnfhcnnodolbaaZY16
set_option linter.unusedVariables false
set_option linter.unusedSimpArgs false
set_option linter.unusedSectionVars false
set_option linter.unnecessarySimpa false
set_option maxRecDepth 100000
namespace Go.Proofs.Ytpnfhcnnodolbaa
open Go Go.RowKit Game
def rgL (m : Met) : Bool → Int
 | true => m.cl
 | false => m.ll
def rgH (m : Met) : Bool → Int
 | true => m.ch
 | false => m.lh
def loS (l : List Met) (cp : Bool) (x : List Int) : Nat → Int := fun n => sm n fun i => nth x i * rgL (mtl l i) cp
def hiS (l : List Met) (cp : Bool) (x : List Int) : Nat → Int := fun n => sm n fun i => nth x i * rgH (mtl l i) cp
def endX (l : List Met) (cp : Bool) (x : List Int) : List Int :=
 if costE l x = 0 then [ratN (loS l cp x l.length) (psum x), ratD (loS l cp x l.length) (psum x), ratN (hiS l cp x l.length) (psum x), ratD (hiS l cp x l.length) (psum x)] else [0, 0, 0, 0]
theorem rg_bd {l : List Met} (v : VldM l) (cp : Bool) (i : Nat) : (0 ≤ rgL (mtl l i) cp ∧ rgL (mtl l i) cp ≤ 1000) ∧ (0 ≤ rgH (mtl l i) cp ∧ rgH (mtl l i) cp ≤ 1000) := by
 have h1 := v.le i
 have h2 := v.co i
 cases cp <;> simp only [rgL, rgH] <;> omega
theorem mul_bd0 {a b A B : Int} (ha : 0 ≤ a ∧ a ≤ A) (hb : 0 ≤ b ∧ b ≤ B) : 0 ≤ a * b ∧ a * b ≤ A * B :=
 ⟨Int.mul_nonneg ha.1 hb.1, Int.mul_le_mul ha.2 hb.2 hb.1 (by omega)⟩
set_option maxHeartbeats 4000000 in
theorem endsC_any (l : List Met) (q : FitM l) (hl : l.length ≤ 1000) (a : Option Addr) (cap : Nat) (x : List Int) (hq : ∀ i, I64 (nth x i)) (hlx : x.length ≤ 1000) (a2 : Option Addr) (c2 : Nat) (cp : Bool) (w : World) (hM : Mts w a l) (hI : Ints w a2 x) :
 Calls Try.prog 21 #[.slice a l.length cap, .slice a2 x.length c2, .bool cp] w fun e w' => e = .returned (.tuple #[.agg #[.int .i64 (nth (endX l cp x) 0), .int .i64 (nth (endX l cp x) 1)], .agg #[.int .i64 (nth (endX l cp x) 2), .int .i64 (nth (endX l cp x) 3)], .int .i64 (costE l x)]) ∧ Ext w w' := by
 have hno : Hid (∀ E : Int, costE l x = E → ¬ E = 0 → ∀ w', Ext w w' → (Ending.returned (.tuple #[.agg #[.int .i64 (0), .int .i64 (0)], .agg #[.int .i64 (0), .int .i64 (0)], .int .i64 (E)]) = .returned (.tuple #[.agg #[.int .i64 (nth (endX l cp x) 0), .int .i64 (nth (endX l cp x) 1)], .agg #[.int .i64 (nth (endX l cp x) 2), .int .i64 (nth (endX l cp x) 3)], .int .i64 (costE l x)]) ∧ Ext w w')) := hid fun E h g w' xx => by
  have : endX l cp x = [0, 0, 0, 0] := by unfold endX; rw [h, if_neg g]
  rw [this, h]
  exact ⟨rfl, xx⟩
 replace hM := hid hM
 replace hI := hid hI
 have hc1 := hid (fun W hW => checkMetals_any l q hl a cap W hW)
 have hc2 := hid (fun W hW => mixed_any a cap x l.length hl hq hlx a2 c2 W hW)
 clear q hq
 go_enter Try.func21, Try.ntmps21
 go_wp2_with fail
 refine name_c (fun w0 hw0 => ?_)
 have X := hid (show Ext w w0 by rw [hw0]; exact exE)
 have x0 : Ext w w0 := X.out
 replace hM := hid (hM.out.ext x0)
 replace hI := hid (hI.out.ext x0)
 have rb := hid (show Bx2 w0 (w.heap.size) (0) (0) from ⟨by rw [hw0]; simp [go_sem], by rw [hw0]; simp [go_sem], by rw [hw0]; simp [go_sem], by rw [hw0]; simp [go_sem]⟩)
 have rc := hid (show Bx2 w0 (w.heap.size + 1) (0) (0) from ⟨by rw [hw0]; simp [go_sem], by rw [hw0]; simp [go_sem], by rw [hw0]; simp [go_sem], by rw [hw0]; simp [go_sem]⟩)
 clear x0 hw0
 obtain ⟨B0, hB0⟩ : ∃ B, w.heap.size = B := ⟨_, rfl⟩
 rw [hB0] at rb rc ⊢
 have hBB : w.heap.size ≤ B0 := by omega
 replace hB0 := hid hB0
 refine (hc1.out _ (hM.out.ext (show Ext w0 _ from exE))).mono ?_; rintro e u1 ⟨rfl, hE⟩
 have x1 : Ext w0 u1 := exE
 replace hM := hid (hM.out.ext x1)
 replace hI := hid (hI.out.ext x1)
 replace rb := hid (rb.out.ext x1)
 replace rc := hid (rc.out.ext x1)
 replace X := hid (X.out.trans x1)
 clear x1 hE
 by_cases g : ¬ chkM l = 0
 ·have g1 : (chkM l != 0) = true := by simpa using g
  have hfin := hid (hno.out _ (cost_1 (x := x) g).1 g)
  replace g := hid g
  obtain ⟨yrb0, yrb1, yrb2, yrb3⟩ := rb.out
  obtain ⟨yrc0, yrc1, yrc2, yrc3⟩ := rc.out
  have z0 := cell_lt yrb0
  have z1 := cell_lt yrc0
  clear hno
  go_wp2_with fail
  refine bodyPost_ret (v := (.tuple #[.agg #[.int .i64 (0), .int .i64 (0)], .agg #[.int .i64 (0), .int .i64 (0)], .int .i64 (chkM l)])) ?_ rfl (hfin.out _ (by have := X.out; exact exE))
  simp [results, Try.results21, go_sem, *]
 replace g := hid (Decidable.not_not.1 g)
 rw [g.out]
 go_wp2_with fail
 refine (hc2.out _ (hI.out.ext (show Ext u1 _ from exE))).mono ?_; rintro e u3 ⟨rfl, hE⟩
 have x1 : Ext u1 u3 := exE
 replace hM := hid (hM.out.ext x1)
 replace hI := hid (hI.out.ext x1)
 replace rb := hid (rb.out.ext x1)
 replace rc := hid (rc.out.ext x1)
 replace X := hid (X.out.trans x1)
 clear x1 hE
 by_cases g2 : ¬ mixE x l.length = 0
 ·have g21 : (mixE x l.length != 0) = true := by simpa using g2
  have hfin := hid (hno.out _ (cost_2 (x := x) g.out g2).1 g2)
  replace g2 := hid g2
  obtain ⟨yrb0, yrb1, yrb2, yrb3⟩ := rb.out
  obtain ⟨yrc0, yrc1, yrc2, yrc3⟩ := rc.out
  have z0 := cell_lt yrb0
  have z1 := cell_lt yrc0
  clear hno
  go_wp2_with fail
  refine bodyPost_ret (v := (.tuple #[.agg #[.int .i64 (0), .int .i64 (0)], .agg #[.int .i64 (0), .int .i64 (0)], .int .i64 (mixE x l.length)])) ?_ rfl (hfin.out _ (by have := X.out; exact exE))
  simp [results, Try.results21, go_sem, *]
 replace g2 := hid (Decidable.not_not.1 g2)
 rw [g2.out]
 have v := chkM_ok.1 g.out
 have vx := mixE_ok.1 g2.out
 have n1 := v.n1; have n6 := v.n6
 have hbd := hid (fun i => rg_bd v cp i)
 have hxb := hid (show ∀ i, 0 ≤ nth x i ∧ nth x i ≤ 1000000 from fun i => ⟨vx.nn i, vx.le i⟩)
 have hlB : Hid (∀ n, 0 ≤ loS l cp x n ∧ loS l cp x n ≤ 1000000000 * n) := hid fun n => sm_bd fun i _ => mul_bd0 (hxb.out i) (hbd.out i).1
 have hhB : Hid (∀ n, 0 ≤ hiS l cp x n ∧ hiS l cp x n ≤ 1000000000 * n) := hid fun n => sm_bd fun i _ => mul_bd0 (hxb.out i) (hbd.out i).2
 have haB : Hid (∀ n, 0 ≤ sm n (nth x) ∧ sm n (nth x) ≤ 1000000 * n) := hid fun n => sm_bd fun i _ => hxb.out i
 have hps : Hid (sm l.length (nth x) = psum x) := hid (by unfold psum; rw [vx.len])
 have hpos := hid vx.ps
 have hsl : Hid (∀ n, loS l cp x (n + 1) = loS l cp x n + nth x n * rgL (mtl l n) cp) := hid fun n => rfl
 have hsh : Hid (∀ n, hiS l cp x (n + 1) = hiS l cp x n + nth x n * rgH (mtl l n) cp) := hid fun n => rfl
 have hsa : Hid (∀ n, sm (n + 1) (nth x) = sm n (nth x) + nth x n) := hid fun n => rfl
 have hfin : Hid (∀ w', Ext w w' → (Ending.returned (.tuple #[.agg #[.int .i64 (ratN (loS l cp x l.length) (psum x)), .int .i64 (ratD (loS l cp x l.length) (psum x))], .agg #[.int .i64 (ratN (hiS l cp x l.length) (psum x)), .int .i64 (ratD (hiS l cp x l.length) (psum x))], .int .i64 (0)]) = .returned (.tuple #[.agg #[.int .i64 (nth (endX l cp x) 0), .int .i64 (nth (endX l cp x) 1)], .agg #[.int .i64 (nth (endX l cp x) 2), .int .i64 (nth (endX l cp x) 3)], .int .i64 (costE l x)]) ∧ Ext w w')) := hid fun w' xx => by
  have h0 := (cost_3 g.out g2.out).1
  have : endX l cp x = [ratN (loS l cp x l.length) (psum x), ratD (loS l cp x l.length) (psum x), ratN (hiS l cp x l.length) (psum x), ratD (hiS l cp x l.length) (psum x)] := by unfold endX; rw [if_pos h0]
  rw [this, h0]
  exact ⟨rfl, xx⟩
 have hl0 : Hid (loS l cp x 0 = 0) := hid rfl
 have hh0 : Hid (hiS l cp x 0 = 0) := hid rfl
 have ha0 : Hid (sm 0 (nth x) = 0) := hid rfl
 obtain ⟨b, off, rfl, hb, hMc⟩ := hM.out.at (by omega)
 obtain ⟨b2, o2, rfl, hb2, hIc⟩ := hI.out.at (by rw [vx.len]; omega)
 replace hMc := hid hMc
 replace hIc := hid hIc
 rw [vx.len]
 have hxl := hid vx.len
 clear v vx hno hc1 hc2
 go_wp2_with fail
 refine name_wp (fun u4 hu4 => ?_)
 have x4 : Ext u3 u4 := by rw [hu4]; exact exE
 have bx := hid (show Bx2 u4 u3.heap.size 0 0 from ⟨by rw [hu4]; simp [go_sem], by rw [hu4]; simp [go_sem], by rw [hu4]; simp [go_sem], by rw [hu4]; simp [go_sem]⟩)
 have x4 := hid x4
 obtain ⟨BX, hBX⟩ : ∃ B, u3.heap.size = B := ⟨_, rfl⟩
 rw [hBX] at bx ⊢
 replace hBX := hid hBX
 clear hu4
 obtain ⟨N, hN⟩ : ∃ N, l.length = N := ⟨_, rfl⟩
 rw [hN] at hMc n1 n6 hps hfin hxl
 rw [hxl.out] at hIc
 rw [hN]
 replace hN := hid hN
 have z3 := rb.out.lt
 have z4 := rc.out.lt
 go_loopw [12, 33] (fun al i wr => ∃ k : Nat, k ≤ N ∧ i = .int .i64 k ∧ al = .int .i64 (sm k (nth x)) ∧ Hid (Ext u3 wr) ∧ Hid (Bx2 wr BX (loS l cp x k) (hiS l cp x k))) (fun _ i _ => (N - intOf i).toNat)
 case atStart => exact ⟨0, by omega, rfl, by rw [ha0.out], x4, by rw [hl0.out, hh0.out]; exact bx⟩
 case round =>
  obtain ⟨k, hk, rfl, rfl, hw, hB⟩ := hrel
  by_cases hkl : k < N
  ·obtain ⟨j0, j1, j2, j3, j4⟩ := (hMc.out k hkl).ext hw.out
   have e1 := hw.out.cell (hIc.out k hkl)
   obtain ⟨b0, b1, f0, f1⟩ := hB.out
   have lX := cell_lt b0
   dsimp only at lX
   have hz3 := hw.out.size
   have hsl1 := hsl.out k
   have hsh1 := hsh.out k
   have hsa1 := hsa.out k
   have hb1 := hbd.out k
   have hy1 := hxb.out k
   have hB0k := hlB.out k
   have hH0k := hhB.out k
   have hA0k := haB.out k
   obtain ⟨y, hy⟩ : ∃ y, nth x k = y := ⟨_, rfl⟩
   rw [hy] at e1 hsl1 hsh1 hsa1 hy1
   obtain ⟨Lk, hLk⟩ : ∃ z, loS l cp x k = z := ⟨_, rfl⟩
   obtain ⟨Hk, hHk⟩ : ∃ z, hiS l cp x k = z := ⟨_, rfl⟩
   obtain ⟨Ak, hAk⟩ : ∃ z, sm k (nth x) = z := ⟨_, rfl⟩
   rw [hLk] at b0 hsl1 hB0k
   rw [hHk] at b1 hsh1 hH0k
   rw [hAk] at hsa1 hA0k ⊢
   have hkI : (k : Int) < (N : Int) := by omega
   have tk := Go.IntWalk.i64_in ((k : Int) + 1) (by omega)
   clear hy hLk hHk hAk
   cases cp with
   | false =>
    simp only [rgL, rgH] at hsl1 hsh1 hb1
    obtain ⟨p, hp⟩ : ∃ z, (mtl l k).ll = z := ⟨_, rfl⟩
    obtain ⟨r, hr⟩ : ∃ z, (mtl l k).lh = z := ⟨_, rfl⟩
    rw [hp] at j1 hsl1 hb1
    rw [hr] at j2 hsh1 hb1
    have m1 := mul_bd0 hy1 hb1.1
    have m2 := mul_bd0 hy1 hb1.2
    obtain ⟨P, hP⟩ : ∃ z, y * p = z := ⟨_, rfl⟩
    obtain ⟨R, hR⟩ : ∃ z, y * r = z := ⟨_, rfl⟩
    rw [hP] at m1 hsl1
    rw [hR] at m2 hsh1
    have w1 : IntKind.i64.wrap (y * p) = P := by rw [hP]; exact Go.IntWalk.i64_in P (by omega)
    have w2 : IntKind.i64.wrap (y * r) = R := by rw [hR]; exact Go.IntWalk.i64_in R (by omega)
    have w3 := Go.IntWalk.i64_in (Lk + P) (by omega)
    have w4 := Go.IntWalk.i64_in (Hk + R) (by omega)
    have w5 := Go.IntWalk.i64_in (Ak + y) (by omega)
    replace hsl1 := hid hsl1; replace hsh1 := hid hsh1; replace hsa1 := hid hsa1
    clear hp hr hP hR m1 m2 hb1 hB0k hH0k hA0k
    go_wp2_with fail
    go_roundw
    case rel => exact ⟨k + 1, by omega, by go_num, by rw [hsa1.out], hid (by have := hw.out; have := hBX.out; exact exE), hid (by
     rw [hsl1.out, hsh1.out]
     exact ⟨by simp [go_sem, *], by simp [go_sem, *], by simp [go_sem, *], by simp [go_sem, *]⟩)⟩
    case measure => simp [intOf]; omega
   | true =>
    simp only [rgL, rgH] at hsl1 hsh1 hb1
    obtain ⟨p, hp⟩ : ∃ z, (mtl l k).cl = z := ⟨_, rfl⟩
    obtain ⟨r, hr⟩ : ∃ z, (mtl l k).ch = z := ⟨_, rfl⟩
    rw [hp] at j3 hsl1 hb1
    rw [hr] at j4 hsh1 hb1
    have m1 := mul_bd0 hy1 hb1.1
    have m2 := mul_bd0 hy1 hb1.2
    obtain ⟨P, hP⟩ : ∃ z, y * p = z := ⟨_, rfl⟩
    obtain ⟨R, hR⟩ : ∃ z, y * r = z := ⟨_, rfl⟩
    rw [hP] at m1 hsl1
    rw [hR] at m2 hsh1
    have w1 : IntKind.i64.wrap (y * p) = P := by rw [hP]; exact Go.IntWalk.i64_in P (by omega)
    have w2 : IntKind.i64.wrap (y * r) = R := by rw [hR]; exact Go.IntWalk.i64_in R (by omega)
    have w3 := Go.IntWalk.i64_in (Lk + P) (by omega)
    have w4 := Go.IntWalk.i64_in (Hk + R) (by omega)
    have w5 := Go.IntWalk.i64_in (Ak + y) (by omega)
    replace hsl1 := hid hsl1; replace hsh1 := hid hsh1; replace hsa1 := hid hsa1
    have hbw : b < wr.heap.size := cell_lt j0
    clear hp hr hP hR m1 m2 hb1 hB0k hH0k hA0k
    go_wp2_with fail
    go_roundw
    case rel => exact ⟨k + 1, by omega, by go_num, by rw [hsa1.out], hid (by have := hw.out; have := hBX.out; exact exE), hid (by
     rw [hsl1.out, hsh1.out]
     exact ⟨by simp [go_sem, *], by simp [go_sem, *], by simp [go_sem, *], by simp [go_sem, *]⟩)⟩
    case measure => simp [intOf]; omega
  ·have hkN : k = N := by omega
   subst hkN
   have hB2 := hB.out
   have hps2 : Hid (sm k (nth x) = psum x) := hps
   have hlb := hlB.out k
   have hhb := hhB.out k
   have hab := haB.out k
   rw [hps2.out] at hab ⊢
   have hby1 := hid (fun W => by_any (loS l cp x k) (psum x) (by omega) (by omega) hpos.out (by omega) W)
   have hby2 := hid (fun W => by_any (hiS l cp x k) (psum x) (by omega) (by omega) hpos.out (by omega) W)
   obtain ⟨N1, hN1⟩ : ∃ z, ratN (loS l cp x k) (psum x) = z := ⟨_, rfl⟩
   obtain ⟨D1, hD1⟩ : ∃ z, ratD (loS l cp x k) (psum x) = z := ⟨_, rfl⟩
   obtain ⟨N2, hN2⟩ : ∃ z, ratN (hiS l cp x k) (psum x) = z := ⟨_, rfl⟩
   obtain ⟨D2, hD2⟩ : ∃ z, ratD (hiS l cp x k) (psum x) = z := ⟨_, rfl⟩
   rw [hN1, hD1] at hby1 hfin
   rw [hN2, hD2] at hby2 hfin
   obtain ⟨Lk, hLk⟩ : ∃ z, loS l cp x k = z := ⟨_, rfl⟩
   obtain ⟨Hk, hHk⟩ : ∃ z, hiS l cp x k = z := ⟨_, rfl⟩
   rw [hLk] at hB2 hby1
   rw [hHk] at hB2 hby2
   obtain ⟨Sx, hSx⟩ : ∃ z, psum x = z := ⟨_, rfl⟩
   rw [hSx] at hby1 hby2 ⊢
   obtain ⟨b0, b1, f0, f1⟩ := hB2
   have rb2 := rb.out.ext hw.out
   have rc2 := rc.out.ext hw.out
   have hsz := hw.out.size
   have xw := hid (X.out.trans hw.out)
   clear hN1 hN2 hD1 hD2 hLk hHk hSx hlb hhb hab hps hps2 hB hlB hhB haB hsl hsh hsa hMc hIc
   go_wp2_with fail
   refine wp_mono (Q := calmS _) ?_ calmS_of
   refine wp_region_held_drew (S := fun w' => Ext w w' ∧ w'.cell? ⟨BX, 0, none⟩ = some (.int .i64 Lk) ∧ w'.cell? ⟨BX, 1, none⟩ = some (.int .i64 Hk)) (by kernel_rfl) ⟨by have := xw.out; exact exE, (show Ext wr _ from exE).cell b0, (show Ext wr _ from exE).cell b1⟩ fun hHeld => ?_
   (refine tkA (i := 0) (v := ?_) rfl (fun _ _ _ h => h) (Or.inl ⟨by rfl, ?yl⟩) (by assumption) ?_; (case yl => ((intro w hSw; (try dsimp only at hSw); obtain ⟨_, kk0, kk1⟩ := hSw; go_simp); with_reducible rfl)); (try simp only [sxA, sxB, sxC, Act.put, sxD, sxE, sxF]))
   (refine tkA (i := 1) (v := ?_) rfl (fun _ _ _ h => h) (Or.inl ⟨by rfl, ?yl⟩) (by assumption) ?_; (case yl => ((intro w hSw; (try dsimp only at hSw); obtain ⟨_, kk0, kk1⟩ := hSw; go_simp); with_reducible rfl)); (try simp only [sxA, sxB, sxC, Act.put, sxD, sxE, sxF]))
   (refine tkA (i := 2) (v := ?_) rfl (fun _ _ _ h => h) (Or.inl ⟨by rfl, ?yl⟩) (by assumption) ?_; (case yl => ((intro w hSw; (try dsimp only at hSw); obtain ⟨_, kk0, kk1⟩ := hSw; go_simp); with_reducible rfl)); (try simp only [sxA, sxB, sxC, Act.put, sxD, sxE, sxF]))
   (refine tkA (i := 4) (v := ?_) rfl (fun _ _ _ h => h) (Or.inl ⟨by rfl, ?yl⟩) (by assumption) ?_; (case yl => ((intro w hSw; (try dsimp only at hSw); obtain ⟨_, kk0, kk1⟩ := hSw; go_simp); with_reducible rfl)); (try simp only [sxA, sxB, sxC, Act.put, sxD, sxE, sxF]))
   (refine tkA (i := 5) (v := ?_) rfl (fun _ _ _ h => h) (Or.inl ⟨by rfl, ?yl⟩) (by assumption) ?_; (case yl => ((intro w hSw; (try dsimp only at hSw); obtain ⟨_, kk0, kk1⟩ := hSw; go_simp); with_reducible rfl)); (try simp only [sxA, sxB, sxC, Act.put, sxD, sxE, sxF]))
   (refine tkA (i := 6) (v := ?_) rfl (fun _ _ _ h => h) (Or.inl ⟨by rfl, ?yl⟩) (by assumption) ?_; (case yl => ((intro w hSw; (try dsimp only at hSw); obtain ⟨_, kk0, kk1⟩ := hSw; go_simp); with_reducible rfl)); (try simp only [sxA, sxB, sxC, Act.put, sxD, sxE, sxF]))
   (refine wpAnyH_ready (rs := [3]) (by kernel_rfl) (by simp) ?_; refine AllReadyH.cons (o := _) rfl (fun K hK => ?_) AllReadyH.nil)
   go_simp
   refine (hby1.out _).mono ?_; rintro e w5 ⟨rfl, hE5⟩
   have x5 : Ext wr w5 := exE
   refine hK.out _ _ ⟨by have := xw.out; exact exE, x5.cell b0, x5.cell b1⟩ (fun hHeld => ?_)
   clear hK K
   (try simp only [sxA, sxB, sxC, Act.put, sxD, sxE, sxF])
   (refine wpAnyH_ready (rs := [7]) (by kernel_rfl) (by simp) ?_; refine AllReadyH.cons (o := _) rfl (fun K hK => ?_) AllReadyH.nil)
   go_simp
   refine (hby2.out _).mono ?_; rintro e w6 ⟨rfl, hE6⟩
   have x6 : Ext wr w6 := exE
   have xw6 := hid (xw.out.trans x6)
   refine hK.out _ _ ⟨xw6.out, x6.cell b0, x6.cell b1⟩ (fun hHeld => ?_)
   clear hK K
   (try simp only [sxA, sxB, sxC, Act.put, sxD, sxE, sxF])
   (refine wpAnyH_ready (rs := [8]) (by kernel_rfl) (by simp) ?_; refine AllReadyH.cons (o := _) rfl (fun K hK => ?_) AllReadyH.nil)
   have A6 := rb2.ext x6
   have B6 := rc2.ext x6
   obtain ⟨c0, c1, g0, g1⟩ := A6
   have y0 := cell_lt c0
   dsimp only at y0
   go_simp
   obtain ⟨w7, hw7⟩ : ∃ w7, w7 = (w6.setCell ⟨B0, 0, none⟩ (.int .i64 N1)).setCell ⟨B0, 1, none⟩ (.int .i64 D1) := ⟨_, rfl⟩
   have hbx := hBX.out
   have X7 : Ext w w7 := by rw [hw7]; have := xw6.out; exact exE
   have b07 : w7.cell? ⟨BX, 0, none⟩ = some (.int .i64 Lk) := by rw [hw7]; exact box_put (by omega) (box_put (by omega) (x6.cell b0))
   have b17 : w7.cell? ⟨BX, 1, none⟩ = some (.int .i64 Hk) := by rw [hw7]; exact box_put (by omega) (box_put (by omega) (x6.cell b1))
   have A7 : Bx2 w7 B0 N1 D1 := by rw [hw7]; exact Bx2.store ⟨c0, c1, g0, g1⟩ _ _
   have B7 : Bx2 w7 (B0 + 1) 0 0 := by rw [hw7]; exact Bx2.put (Bx2.put B6 (by omega) _) (by omega) _
   rw [← hw7]
   clear hw7
   refine hK.out _ _ ⟨X7, b07, b17⟩ (fun hHeld => ?_)
   clear hK K
   clear c0 c1 g0 g1 y0 x5 hE5 hE6
   (try simp only [sxA, sxB, sxC, Act.put, sxD, sxE, sxF])
   (refine wpAnyH_ready (rs := [9]) (by kernel_rfl) (by simp) ?_; refine AllReadyH.cons (o := _) rfl (fun K hK => ?_) AllReadyH.nil)
   obtain ⟨d0, d1, g0, g1⟩ := B7
   have y4 := cell_lt d0
   dsimp only at y4
   go_simp
   obtain ⟨w8, hw8⟩ : ∃ w8, w8 = (w7.setCell ⟨B0 + 1, 0, none⟩ (.int .i64 N2)).setCell ⟨B0 + 1, 1, none⟩ (.int .i64 D2) := ⟨_, rfl⟩
   have X8 : Ext w w8 := by rw [hw8]; exact exE
   have b08 : w8.cell? ⟨BX, 0, none⟩ = some (.int .i64 Lk) := by rw [hw8]; exact box_put (by omega) (box_put (by omega) b07)
   have b18 : w8.cell? ⟨BX, 1, none⟩ = some (.int .i64 Hk) := by rw [hw8]; exact box_put (by omega) (box_put (by omega) b17)
   have B8 : Bx2 w8 (B0 + 1) N2 D2 := by rw [hw8]; exact Bx2.store ⟨d0, d1, g0, g1⟩ _ _
   have A8 : Bx2 w8 B0 N1 D1 := by rw [hw8]; exact Bx2.put (Bx2.put A7 (by omega) _) (by omega) _
   rw [← hw8]
   clear hw8
   refine hK.out _ _ ⟨X8, b08, b18⟩ (fun hHeld => ?_)
   clear hK K
   (try simp only [sxA, sxB, sxC, Act.put, sxD, sxE, sxF])
   (refine tkA (i := 10) (v := ?_) rfl (fun _ _ _ h => h) (Or.inl ⟨by rfl, ?yl⟩) (by assumption) ?_; (case yl => ((intro w hSw; (try dsimp only at hSw); obtain ⟨_, kk0, kk1⟩ := hSw; go_simp); with_reducible rfl)); (try simp only [sxA, sxB, sxC, Act.put, sxD, sxE, sxF]))
   refine wpAnyH_done (by kernel_rfl) ?_ _
   clear A7 X7 b07 b17 d0 d1 g0 g1 hHeld
   obtain ⟨c0, c1, _, _⟩ := A8
   obtain ⟨d0, d1, _, _⟩ := B8
   simp only [calmS]
   go_wp2_with fail
   refine bodyPost_ret (v := (.tuple #[.agg #[.int .i64 (N1), .int .i64 (D1)], .agg #[.int .i64 (N2), .int .i64 (D2)], .int .i64 (0)])) ?_ rfl (hfin.out _ X8)
   simp [results, Try.results21, go_sem, *]
theorem rat_lt {p q r s : Int} (hq : 0 < q) (hs : 0 < s) : lessB (ratN p q) (ratD p q) (ratN r s) (ratD r s) = decide (p * s < r * q) := by
 obtain ⟨e1, e2, g1⟩ := rat_spec p hq
 obtain ⟨e3, e4, g2⟩ := rat_spec r hs
 have k1 := gcd_pos (a := p) hq
 have k2 := gcd_pos (a := r) hs
 generalize ratN p q = N at *
 generalize ratD p q = D at *
 generalize ratN r s = N' at *
 generalize ratD r s = D' at *
 generalize (Int.gcd p q : Int) = g at *
 generalize (Int.gcd r s : Int) = h at *
 subst e1 e2 e3 e4
 unfold lessB
 rw [show N * g * (D' * h) = (g * h) * (N * D') by grind, show N' * h * (D * g) = (g * h) * (N' * D) by grind]
 have hgh := Int.mul_pos k1 k2
 rw [Bool.eq_iff_iff]
 simp only [decide_eq_true_eq]
 exact ⟨fun hh => Int.mul_lt_mul_of_pos_left hh hgh, fun hh => Int.lt_of_mul_lt_mul_left hh (by omega)⟩
theorem cost_small {l : List Met} (v : VldM l) {x : List Int} (vx : VldX x l.length) (hs : psum x ≤ 6000000) : OkS (ratN (costN l x l.length) (psum x)) (ratD (costN l x l.length) (psum x)) := by
 have hb : costN l x l.length ≤ 1000 * psum x ∧ 0 ≤ costN l x l.length := by
  constructor
  ·unfold costN psum
   rw [vx.len, ← sm_mul]
   exact sm_le fun i _ => by
    have h1 := vx.nn i
    have h2 := (v.pr i).2
    have := Int.mul_le_mul_of_nonneg_left h2 h1
    grind
  ·exact sm_nonneg fun i _ => Int.mul_nonneg (vx.nn i) (v.pr i).1
 obtain ⟨e1, e2, g1⟩ := rat_spec (costN l x l.length) vx.ps
 have k1 := gcd_pos (a := costN l x l.length) vx.ps
 have hd := ratD_bd (a := costN l x l.length) vx.ps
 have hps := vx.ps
 have rc : Int.gcd (ratN (costN l x l.length) (psum x)) (ratD (costN l x l.length) (psum x)) = 1 := Int.gcd_ediv_gcd_ediv_gcd (by omega)
 generalize costN l x l.length = C at *
 generalize psum x = P at *
 refine ⟨?_, ?_, hd.1, by omega, rc⟩
 ·unfold ratN; exact Int.ediv_nonneg hb.2 (by omega)
 ·generalize ratN C P = N at *
  generalize ratD C P = D at *
  generalize (Int.gcd C P : Int) = g at *
  rw [e1, e2, show 1000 * (D * g) = (1000 * D) * g by grind] at hb
  exact Int.le_of_mul_le_mul_right hb.1 k1
theorem psum_le {n : Nat} (n6 : n ≤ 6) {x : List Int} (hl : x.length = n) (h : ∀ i, nth x i ≤ 1000000) (h0 : ∀ i, 0 ≤ nth x i) : psum x ≤ 6000000 := by
 have := (sm_bd (n := x.length) (f := nth x) (B := 1000000) fun i _ => ⟨h0 i, h i⟩).2
 unfold psum
 omega
theorem OkS.mul {a b c d : Int} (h : OkS a b) (k : OkS c d) : I64 (a * d) := mul_i64 (A := 6000000000) (B := 6000000) h.n0 (by have := h.n1; have := h.d1; omega) (by have := k.d0; omega) k.d1 (by decide) (by decide)
end Go.Proofs.Ytpnfhcnnodolbaa
