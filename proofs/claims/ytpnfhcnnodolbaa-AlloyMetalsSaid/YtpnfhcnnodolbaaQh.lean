/- The definitions' Ends. -/
import Derived.Test.YtpnfhcnnodolbaaZB10
import Derived.Test.YtpnfhcnnodolbaaQf
namespace Go.Proofs.Ytpnfhcnnodolbaa
set_option linter.unusedVariables false
set_option linter.unusedSimpArgs false
set_option linter.unusedSectionVars false
set_option linter.unnecessarySimpa false
open Go Go.RowKit Game
set_option maxRecDepth 100000
set_option maxHeartbeats 4000000 in
theorem endsR_any (l : List Met) (q : FitM l) (hl : l.length ≤ 1000) (a : Option Addr) (cap : Nat) (x : List Int) (hq : ∀ i, I64 (nth x i)) (hlx : x.length ≤ 1000) (a2 : Option Addr) (c2 : Nat) (cp : Bool) (w : World) (hM : Mts w a l) (hI : Ints w a2 x) :
 Calls Try.prog 22 #[.slice a l.length cap, .slice a2 x.length c2, .bool cp] w fun e w' => e = .returned (.tuple #[.agg #[.int .i64 (nth (endX l cp x) 0), .int .i64 (nth (endX l cp x) 1)], .agg #[.int .i64 (nth (endX l cp x) 2), .int .i64 (nth (endX l cp x) 3)], .int .i64 (costE l x)]) ∧ Ext w w' := by
 have hno : Hid (∀ E : Int, costE l x = E → ¬ E = 0 → ∀ w', Ext w w' → (Ending.returned (.tuple #[.agg #[.int .i64 (0), .int .i64 (0)], .agg #[.int .i64 (0), .int .i64 (0)], .int .i64 (E)]) = .returned (.tuple #[.agg #[.int .i64 (nth (endX l cp x) 0), .int .i64 (nth (endX l cp x) 1)], .agg #[.int .i64 (nth (endX l cp x) 2), .int .i64 (nth (endX l cp x) 3)], .int .i64 (costE l x)]) ∧ Ext w w')) := hid fun E h g w' xx => by
  have : endX l cp x = [0, 0, 0, 0] := by unfold endX; rw [h, if_neg g]
  rw [this, h]
  exact ⟨rfl, xx⟩
 replace hM := hid hM
 replace hI := hid hI
 have hc1 := hid (fun W hW => checkMetalsR_any l q hl a cap W hW)
 have hc2 := hid (fun W hW => mixtureErrorR_any a cap x l.length hl hq hlx a2 c2 W hW)
 clear q hq
 go_enter Try.func22, Try.ntmps22
 go_wp2_with fail
 refine name_c (fun w0 hw0 => ?_)
 have X := hid (show Ext w w0 by rw [hw0]; exact exE)
 have x0 : Ext w w0 := X.out
 replace hM := hid (hM.out.ext x0)
 replace hI := hid (hI.out.ext x0)
 have rb := hid (show Bx2 w0 (w.heap.size) (0) (0) from ⟨by rw [hw0]; simp [go_sem], by rw [hw0]; simp [go_sem], by rw [hw0]; simp [go_sem], by rw [hw0]; simp [go_sem]⟩)
 have rc := hid (show Bx2 w0 (w.heap.size + 1) (0) (0) from ⟨by rw [hw0]; simp [go_sem], by rw [hw0]; simp [go_sem], by rw [hw0]; simp [go_sem], by rw [hw0]; simp [go_sem]⟩)
 clear x0 hw0
 obtain ⟨B0, hB0⟩ : ∃ B, w.heap.size = B := ⟨_, rfl⟩
 rw [hB0] at rb rc ⊢
 have hBB : w.heap.size ≤ B0 := by omega
 replace hB0 := hid hB0
 refine (hc1.out _ (hM.out.ext (show Ext w0 _ from exE))).mono ?_; rintro e u1 ⟨rfl, hE⟩
 have x1 : Ext w0 u1 := exE
 replace hM := hid (hM.out.ext x1)
 replace hI := hid (hI.out.ext x1)
 replace rb := hid (rb.out.ext x1)
 replace rc := hid (rc.out.ext x1)
 replace X := hid (X.out.trans x1)
 clear x1 hE
 by_cases g : ¬ chkM l = 0
 ·have g1 : (chkM l != 0) = true := by simpa using g
  have hfin := hid (hno.out _ (cost_1 (x := x) g).1 g)
  replace g := hid g
  clear hno
  go_wp2_with fail
  refine (hc1.out _ (hM.out.ext (show Ext u1 _ from exE))).mono ?_; rintro e u2 ⟨rfl, hE⟩
  have x1 : Ext u1 u2 := exE
  replace rb := hid (rb.out.ext x1)
  replace rc := hid (rc.out.ext x1)
  replace X := hid (X.out.trans x1)
  clear x1 hE
  obtain ⟨yrb0, yrb1, yrb2, yrb3⟩ := rb.out
  obtain ⟨yrc0, yrc1, yrc2, yrc3⟩ := rc.out
  have z0 := cell_lt yrb0
  have z1 := cell_lt yrc0
  go_wp2_with fail
  refine bodyPost_ret (v := (.tuple #[.agg #[.int .i64 (0), .int .i64 (0)], .agg #[.int .i64 (0), .int .i64 (0)], .int .i64 (chkM l)])) ?_ rfl (hfin.out _ (by have := X.out; exact exE))
  simp [results, Try.results22, go_sem, *]
 replace g := hid (Decidable.not_not.1 g)
 rw [g.out]
 go_wp2_with fail
 refine (hc2.out _ (hI.out.ext (show Ext u1 _ from exE))).mono ?_; rintro e u3 ⟨rfl, hE⟩
 have x1 : Ext u1 u3 := exE
 replace hM := hid (hM.out.ext x1)
 replace hI := hid (hI.out.ext x1)
 replace rb := hid (rb.out.ext x1)
 replace rc := hid (rc.out.ext x1)
 replace X := hid (X.out.trans x1)
 clear x1 hE
 by_cases g2 : ¬ mixE x l.length = 0
 ·have g21 : (mixE x l.length != 0) = true := by simpa using g2
  have hfin := hid (hno.out _ (cost_2 (x := x) g.out g2).1 g2)
  replace g2 := hid g2
  clear hno
  go_wp2_with fail
  refine (hc2.out _ (hI.out.ext (show Ext u3 _ from exE))).mono ?_; rintro e u2 ⟨rfl, hE⟩
  have x1 : Ext u3 u2 := exE
  replace rb := hid (rb.out.ext x1)
  replace rc := hid (rc.out.ext x1)
  replace X := hid (X.out.trans x1)
  clear x1 hE
  obtain ⟨yrb0, yrb1, yrb2, yrb3⟩ := rb.out
  obtain ⟨yrc0, yrc1, yrc2, yrc3⟩ := rc.out
  have z0 := cell_lt yrb0
  have z1 := cell_lt yrc0
  go_wp2_with fail
  refine bodyPost_ret (v := (.tuple #[.agg #[.int .i64 (0), .int .i64 (0)], .agg #[.int .i64 (0), .int .i64 (0)], .int .i64 (mixE x l.length)])) ?_ rfl (hfin.out _ (by have := X.out; exact exE))
  simp [results, Try.results22, go_sem, *]
 replace g2 := hid (Decidable.not_not.1 g2)
 rw [g2.out]
 have v := chkM_ok.1 g.out
 have vx := mixE_ok.1 g2.out
 have n1 := v.n1; have n6 := v.n6
 have hbd := hid (fun i => rg_bd v cp i)
 have hxb := hid (show ∀ i, 0 ≤ nth x i ∧ nth x i ≤ 1000000 from fun i => ⟨vx.nn i, vx.le i⟩)
 have hlB : Hid (∀ n, 0 ≤ loS l cp x n ∧ loS l cp x n ≤ 1000000000 * n) := hid fun n => sm_bd fun i _ => mul_bd0 (hxb.out i) (hbd.out i).1
 have hhB : Hid (∀ n, 0 ≤ hiS l cp x n ∧ hiS l cp x n ≤ 1000000000 * n) := hid fun n => sm_bd fun i _ => mul_bd0 (hxb.out i) (hbd.out i).2
 have haB : Hid (∀ n, 0 ≤ sm n (nth x) ∧ sm n (nth x) ≤ 1000000 * n) := hid fun n => sm_bd fun i _ => hxb.out i
 have hps : Hid (sm l.length (nth x) = psum x) := hid (by unfold psum; rw [vx.len])
 have hpos := hid vx.ps
 have hsl : Hid (∀ n, loS l cp x (n + 1) = loS l cp x n + nth x n * rgL (mtl l n) cp) := hid fun n => rfl
 have hsh : Hid (∀ n, hiS l cp x (n + 1) = hiS l cp x n + nth x n * rgH (mtl l n) cp) := hid fun n => rfl
 have hsa : Hid (∀ n, sm (n + 1) (nth x) = sm n (nth x) + nth x n) := hid fun n => rfl
 have hfin : Hid (∀ w', Ext w w' → (Ending.returned (.tuple #[.agg #[.int .i64 (ratN (loS l cp x l.length) (psum x)), .int .i64 (ratD (loS l cp x l.length) (psum x))], .agg #[.int .i64 (ratN (hiS l cp x l.length) (psum x)), .int .i64 (ratD (hiS l cp x l.length) (psum x))], .int .i64 (0)]) = .returned (.tuple #[.agg #[.int .i64 (nth (endX l cp x) 0), .int .i64 (nth (endX l cp x) 1)], .agg #[.int .i64 (nth (endX l cp x) 2), .int .i64 (nth (endX l cp x) 3)], .int .i64 (costE l x)]) ∧ Ext w w')) := hid fun w' xx => by
  have h0 := (cost_3 g.out g2.out).1
  have : endX l cp x = [ratN (loS l cp x l.length) (psum x), ratD (loS l cp x l.length) (psum x), ratN (hiS l cp x l.length) (psum x), ratD (hiS l cp x l.length) (psum x)] := by unfold endX; rw [if_pos h0]
  rw [this, h0]
  exact ⟨rfl, xx⟩
 have hsum := hid (fun W (y : Ext u3 W) => by have := sumR_any x (fun i => ⟨(hxb.out i).1, by have := (hxb.out i).2; omega⟩) (by omega) a2 c2 W (hI.out.ext y); rw [vx.len] at this; exact this)
 have hl0 : Hid (loS l cp x 0 = 0) := hid rfl
 have hh0 : Hid (hiS l cp x 0 = 0) := hid rfl
 have ha0 : Hid (sm 0 (nth x) = 0) := hid rfl
 obtain ⟨b, off, rfl, hb, hMc⟩ := hM.out.at (by omega)
 obtain ⟨b2, o2, ha2, hb2, hIc⟩ := hI.out.at (by rw [vx.len]; omega)
 subst ha2
 replace hMc := hid hMc
 replace hIc := hid hIc
 rw [vx.len]
 have hxl := hid vx.len
 clear v vx hno hc1 hc2
 go_wp2_with fail
 obtain ⟨N, hN⟩ : ∃ N, l.length = N := ⟨_, rfl⟩
 rw [hN] at hMc n1 n6 hps hfin hxl hsum
 rw [hxl.out] at hIc
 rw [hN]
 replace hN := hid hN
 have z3 := rb.out.lt
 have z4 := rc.out.lt
 go_loopw [9, 10, 11] (fun a1 a2 i wr => ∃ k : Nat, k ≤ N ∧ a1 = .int .i64 (loS l cp x k) ∧ a2 = .int .i64 (hiS l cp x k) ∧ i = .int .i64 k ∧ Hid (Ext u3 wr)) (fun _ _ i _ => (N - intOf i).toNat)
 case atStart => exact ⟨0, by omega, by rw [hl0.out], by rw [hh0.out], rfl, hid (Ext.refl _)⟩
 case round =>
  obtain ⟨k, hk, rfl, rfl, rfl, hw⟩ := hrel
  by_cases hkl : k < N
  ·obtain ⟨j0, j1, j2, j3, j4⟩ := (hMc.out k hkl).ext hw.out
   have e1 := hw.out.cell (hIc.out k hkl)
   have hz3 := hw.out.size
   have hsl1 := hsl.out k
   have hsh1 := hsh.out k
   have hb1 := hbd.out k
   have hy1 := hxb.out k
   have hB0k := hlB.out k
   have hH0k := hhB.out k
   obtain ⟨y, hy⟩ : ∃ y, nth x k = y := ⟨_, rfl⟩
   rw [hy] at e1 hsl1 hsh1 hy1
   obtain ⟨Lk, hLk⟩ : ∃ z, loS l cp x k = z := ⟨_, rfl⟩
   obtain ⟨Hk, hHk⟩ : ∃ z, hiS l cp x k = z := ⟨_, rfl⟩
   rw [hLk] at hsl1 hB0k ⊢
   rw [hHk] at hsh1 hH0k ⊢
   have hkI : (k : Int) < (N : Int) := by omega
   have tk := Go.IntWalk.i64_in ((k : Int) + 1) (by omega)
   clear hy hLk hHk
   cases cp with
   | false =>
    simp only [rgL, rgH] at hsl1 hsh1 hb1
    obtain ⟨p, hp⟩ : ∃ z, (mtl l k).ll = z := ⟨_, rfl⟩
    obtain ⟨r, hr⟩ : ∃ z, (mtl l k).lh = z := ⟨_, rfl⟩
    rw [hp] at j1 hsl1 hb1
    rw [hr] at j2 hsh1 hb1
    have m1 := mul_bd0 hy1 hb1.1
    have m2 := mul_bd0 hy1 hb1.2
    obtain ⟨P, hP⟩ : ∃ z, y * p = z := ⟨_, rfl⟩
    obtain ⟨R, hR⟩ : ∃ z, y * r = z := ⟨_, rfl⟩
    rw [hP] at m1 hsl1
    rw [hR] at m2 hsh1
    have w1 : IntKind.i64.wrap (y * p) = P := by rw [hP]; exact Go.IntWalk.i64_in P (by omega)
    have w2 : IntKind.i64.wrap (y * r) = R := by rw [hR]; exact Go.IntWalk.i64_in R (by omega)
    have w3 := Go.IntWalk.i64_in (Lk + P) (by omega)
    have w4 := Go.IntWalk.i64_in (Hk + R) (by omega)
    have hbw : b < wr.heap.size := cell_lt j0
    have hbw2 : b2 < wr.heap.size := cell_lt e1
    replace hsl1 := hid hsl1; replace hsh1 := hid hsh1
    clear hp hr hP hR m1 m2 hb1 hB0k hH0k
    go_wp2_with fail
    go_quiet (fail)
    go_wp2_with fail
    go_roundw
    case rel => exact ⟨k + 1, by omega, by rw [hsl1.out], by rw [hsh1.out], by go_num, hid (by have := hw.out; exact exE)⟩
    case measure => simp [intOf]; omega
   | true =>
    simp only [rgL, rgH] at hsl1 hsh1 hb1
    obtain ⟨p, hp⟩ : ∃ z, (mtl l k).cl = z := ⟨_, rfl⟩
    obtain ⟨r, hr⟩ : ∃ z, (mtl l k).ch = z := ⟨_, rfl⟩
    rw [hp] at j3 hsl1 hb1
    rw [hr] at j4 hsh1 hb1
    have m1 := mul_bd0 hy1 hb1.1
    have m2 := mul_bd0 hy1 hb1.2
    obtain ⟨P, hP⟩ : ∃ z, y * p = z := ⟨_, rfl⟩
    obtain ⟨R, hR⟩ : ∃ z, y * r = z := ⟨_, rfl⟩
    rw [hP] at m1 hsl1
    rw [hR] at m2 hsh1
    have w1 : IntKind.i64.wrap (y * p) = P := by rw [hP]; exact Go.IntWalk.i64_in P (by omega)
    have w2 : IntKind.i64.wrap (y * r) = R := by rw [hR]; exact Go.IntWalk.i64_in R (by omega)
    have w3 := Go.IntWalk.i64_in (Lk + P) (by omega)
    have w4 := Go.IntWalk.i64_in (Hk + R) (by omega)
    have hbw : b < wr.heap.size := cell_lt j0
    have hbw2 : b2 < wr.heap.size := cell_lt e1
    replace hsl1 := hid hsl1; replace hsh1 := hid hsh1
    clear hp hr hP hR m1 m2 hb1 hB0k hH0k
    go_wp2_with fail
    go_quiet (fail)
    go_wp2_with fail
    go_roundw
    case rel => exact ⟨k + 1, by omega, by rw [hsl1.out], by rw [hsh1.out], by go_num, hid (by have := hw.out; exact exE)⟩
    case measure => simp [intOf]; omega
  ·have hkN : k = N := by omega
   subst hkN
   have hlb := hlB.out k
   have hhb := hhB.out k
   have hab := haB.out k
   have hps2 : Hid (sm k (nth x) = psum x) := hps
   rw [hps2.out] at hab
   have hby1 := hid (fun W => byR_any (loS l cp x k) (psum x) (by omega) (by omega) hpos.out (by omega) W)
   have hby2 := hid (fun W => byR_any (hiS l cp x k) (psum x) (by omega) (by omega) hpos.out (by omega) W)
   obtain ⟨N1, hN1⟩ : ∃ z, ratN (loS l cp x k) (psum x) = z := ⟨_, rfl⟩
   obtain ⟨D1, hD1⟩ : ∃ z, ratD (loS l cp x k) (psum x) = z := ⟨_, rfl⟩
   obtain ⟨N2, hN2⟩ : ∃ z, ratN (hiS l cp x k) (psum x) = z := ⟨_, rfl⟩
   obtain ⟨D2, hD2⟩ : ∃ z, ratD (hiS l cp x k) (psum x) = z := ⟨_, rfl⟩
   rw [hN1, hD1] at hby1 hfin
   rw [hN2, hD2] at hby2 hfin
   obtain ⟨Lk, hLk⟩ : ∃ z, loS l cp x k = z := ⟨_, rfl⟩
   obtain ⟨Hk, hHk⟩ : ∃ z, hiS l cp x k = z := ⟨_, rfl⟩
   rw [hLk] at hby1 ⊢
   rw [hHk] at hby2 ⊢
   obtain ⟨Sx, hSx⟩ : ∃ z, psum x = z := ⟨_, rfl⟩
   rw [hSx] at hby1 hby2 hsum
   have rb2 := hid (rb.out.ext hw.out)
   have rc2 := hid (rc.out.ext hw.out)
   have hsz := hw.out.size
   have xw := hid (X.out.trans hw.out)
   clear hN1 hN2 hD1 hD2 hLk hHk hSx hlb hhb hab hps hps2 hlB hhB haB hsl hsh hsa hMc hIc
   go_wp2_with fail
   refine (hsum.out _ (by have := hw.out; exact exE)).mono ?_; rintro e w5 ⟨rfl, hE5⟩
   have x5 : Ext wr w5 := exE
   go_wp2_with fail
   refine (hby1.out _).mono ?_; rintro e w6 ⟨rfl, hE6⟩
   have x6 : Ext wr w6 := exE
   go_wp2_with fail
   refine (hsum.out _ (by have := hw.out; exact exE)).mono ?_; rintro e w7 ⟨rfl, hE7⟩
   have x7 : Ext wr w7 := exE
   go_wp2_with fail
   refine (hby2.out _).mono ?_; rintro e w8 ⟨rfl, hE8⟩
   have x8 : Ext wr w8 := exE
   obtain ⟨c0, c1, f0, f1⟩ := rb2.out.ext x8
   obtain ⟨d0, d1, g0, g1⟩ := rc2.out.ext x8
   have y0 := cell_lt c0
   have y4 := cell_lt d0
   dsimp only at y0 y4
   have X8 := hid (xw.out.trans x8)
   clear x5 x6 x7 x8 hE5 hE6 hE7 hE8
   go_wp2_with fail
   refine bodyPost_ret (v := (.tuple #[.agg #[.int .i64 (N1), .int .i64 (D1)], .agg #[.int .i64 (N2), .int .i64 (D2)], .int .i64 (0)])) ?_ rfl (hfin.out _ (by have := X8.out; exact exE))
   simp [results, Try.results22, go_sem, *]

end Go.Proofs.Ytpnfhcnnodolbaa
