/- Texts of one proof, laid together: Qj. -/
import Derived.Test.YtpnfhcnnodolbaaZY10
import Derived.Test.YtpnfhcnnodolbaaZY7
import Derived.Test.YtpnfhcnnodolbaaZY2
import Derived.Test.YtpnfhcnnodolbaaZSharesA37
import Derived.Test.YtpnfhcnnodolbaaZY26
import Derived.Test.YtpnfhcnnodolbaaZY25
import Derived.Test.YtpnfhcnnodolbaaZY11
import Derived.Test.YtpnfhcnnodolbaaZY4
import Derived.Test.YtpnfhcnnodolbaaZY18
import Derived.Test.YtpnfhcnnodolbaaZY17
import Derived.Test.YtpnfhcnnodolbaaZY16
import Derived.Test.YtpnfhcnnodolbaaZY8
import Derived.Test.YtpnfhcnnodolbaaZSharesA35
import Derived.Test.YtpnfhcnnodolbaaZY12
import Derived.Test.YtpnfhcnnodolbaaZSharesA36
import Derived.Test.YtpnfhcnnodolbaaZY22
import Derived.Test.YtpnfhcnnodolbaaZY20
import Derived.Test.YtpnfhcnnodolbaaZY21
import Derived.Test.YtpnfhcnnodolbaaZY9
import Derived.Test.YtpnfhcnnodolbaaZY5
import Derived.Test.YtpnfhcnnodolbaaZY13
import Derived.Test.YtpnfhcnnodolbaaZY3
import Derived.Test.YtpnfhcnnodolbaaZY19
import Derived.Test.YtpnfhcnnodolbaaZY1
import Derived.Test.YtpnfhcnnodolbaaZY28
import Derived.Test.YtpnfhcnnodolbaaZY23
import Derived.Test.YtpnfhcnnodolbaaZY14
set_option linter.unusedVariables false
set_option linter.unusedSimpArgs false
set_option linter.unusedSectionVars false
set_option linter.unnecessarySimpa false
set_option maxRecDepth 100000
namespace Go.Proofs.Ytpnfhcnnodolbaa
open Go Go.RowKit Game
def srE (l : List Met) (u c : Int) (s : Bool) (m : Int) : Int :=
 if ¬ chkB l u c = 0 then chkB l u c else if inR 0 ((l.length : Int) - 1) m = false then 2 else if (edg l u c s).length = 0 then 17 else 0
def srX (l : List Met) (u c : Int) (s : Bool) (m : Int) : List Int :=
 if srE l u c s m = 0 then [shN m.toNat (shLo m.toNat (edg l u c s)), shD m.toNat (shLo m.toNat (edg l u c s)), shN m.toNat (shHi m.toNat (edg l u c s)), shD m.toNat (shHi m.toNat (edg l u c s))] else [0, 0, 0, 0]
theorem by_sh {l : List Met} {x : List Int} (ok : Xok l x) (n6 : l.length ≤ 6) (m : Nat) (W : World) : Calls Try.prog 48 #[.int .i64 (nth x m), .int .i64 (psum x)] W fun e w' => e = .returned (.agg #[.int .i64 (shN m x), .int .i64 (shD m x)]) ∧ Ext W w' := by
 have hp : psum x ≤ 60000000 := by
  have := (sm_bd (n := x.length) (f := nth x) (B := 10000000) fun i _ => ok.prt i).2
  unfold psum
  have := ok.len
  omega
 have hx := ok.prt m
 exact byR_any (nth x m) (psum x) (by omega) (by omega) ok.pos (by omega) W
set_option maxHeartbeats 8000000 in
theorem shareR_any (l : List Met) (q : FitM l) (hl : l.length ≤ 1000) (a : Option Addr) (cap : Nat) (u c : Int) (s : Bool) (m : Int) (im : I64 m) (w : World) (hM : Mts w a l) :
 Calls Try.prog 41 #[.slice a l.length cap, (.agg #[.int .i64 (u), .int .i64 (c)]), .bool s, .int .i64 m] w fun e w' => e = .returned (.tuple #[.agg #[.int .i64 (nth (srX l u c s m) 0), .int .i64 (nth (srX l u c s m) 1)], .agg #[.int .i64 (nth (srX l u c s m) 2), .int .i64 (nth (srX l u c s m) 3)], .int .i64 (srE l u c s m)]) ∧ Ext w w' := by
 have hno : Hid (∀ E : Int, srE l u c s m = E → ¬ E = 0 → ∀ w', Ext w w' → (Ending.returned (.tuple #[.agg #[.int .i64 (0), .int .i64 (0)], .agg #[.int .i64 (0), .int .i64 (0)], .int .i64 (E)]) = .returned (.tuple #[.agg #[.int .i64 (nth (srX l u c s m) 0), .int .i64 (nth (srX l u c s m) 1)], .agg #[.int .i64 (nth (srX l u c s m) 2), .int .i64 (nth (srX l u c s m) 3)], .int .i64 (srE l u c s m)]) ∧ Ext w w')) := hid fun E h g w' x => by
  have : srX l u c s m = [0, 0, 0, 0] := by unfold srX; rw [h, if_neg g]
  rw [this, h]
  exact ⟨rfl, x⟩
 have hdE : Hid (srE l u c s m = if ¬ chkB l u c = 0 then chkB l u c else if inR 0 ((l.length : Int) - 1) m = false then 2 else if (edg l u c s).length = 0 then 17 else 0) := hid rfl
 replace hM := hid hM
 have hc1 := hid (fun W hW => both_any l q hl a cap u c W hW)
 clear q
 go_enter Try.func41, Try.ntmps41
 go_wp2_with fail
 refine name_c (fun w0 hw0 => ?_)
 have X := hid (show Ext w w0 by rw [hw0]; exact exE)
 have t0 := hid (show w0.cell? ⟨w.heap.size, 0, none⟩ = some (.int .i64 u) by rw [hw0]; simp [go_sem])
 have t1 := hid (show w0.cell? ⟨w.heap.size, 1, none⟩ = some (.int .i64 c) by rw [hw0]; simp [go_sem])
 have rb := hid (show Bx2 w0 (w.heap.size + 1) 0 0 from ⟨by rw [hw0]; simp [go_sem], by rw [hw0]; simp [go_sem], by rw [hw0]; simp [go_sem], by rw [hw0]; simp [go_sem]⟩)
 have rc := hid (show Bx2 w0 (w.heap.size + 2) 0 0 from ⟨by rw [hw0]; simp [go_sem], by rw [hw0]; simp [go_sem], by rw [hw0]; simp [go_sem], by rw [hw0]; simp [go_sem]⟩)
 clear hw0
 refine (hc1.out _ (hM.out.ext X.out)).mono ?_; rintro e w1 ⟨rfl, hE⟩
 have x1 : Ext w0 w1 := exE
 replace X := hid (X.out.trans x1)
 replace t0 := hid (x1.cell t0.out)
 replace t1 := hid (x1.cell t1.out)
 replace rb := hid (rb.out.ext x1)
 replace rc := hid (rc.out.ext x1)
 clear hE x1
 have o0 := t0.out; have o1 := t1.out
 by_cases g : ¬ chkB l u c = 0
 ·rw [if_pos g] at hdE
  have hfin := hid (hno.out _ hdE.out g)
  have g1 : (chkB l u c != 0) = true := by simpa using g
  replace g := hid g
  go_wp2_with fail
  refine (hc1.out _ (hM.out.ext (by have := X.out; exact exE))).mono ?_; rintro e w2 ⟨rfl, hE⟩
  have x2 : Ext w1 w2 := exE
  have X2 := hid (X.out.trans x2)
  obtain ⟨c0, c1, f0, f1⟩ := rb.out.ext x2
  obtain ⟨d0, d1, g0, g1⟩ := rc.out.ext x2
  have z0 := cell_lt c0
  have z4 := cell_lt d0
  dsimp only at z0 z4
  clear hE x2
  go_wp2_with fail
  refine bodyPost_ret (v := (.tuple #[.agg #[.int .i64 (0), .int .i64 (0)], .agg #[.int .i64 (0), .int .i64 (0)], .int .i64 (chkB l u c)])) ?_ rfl (hfin.out _ (by have := X2.out; exact exE))
  simp [results, Try.results41, go_sem, *]
 rw [if_neg g] at hdE
 replace g := Decidable.not_not.1 g
 obtain ⟨v, hu, hc⟩ := chkB_ok g
 have hV := hid v
 rw [g]
 have n1 := v.n1
 have n6 := hid v.n6
 have hed := hid (fun W hW => edgesR_any l v u c hu hc s a cap W hW)
 have h1000 := edg_len v.n6 u c s
 have hok := hid (fun x (h : x ∈ edg l u c s) => (edg_ok v hu hc h).1)
 clear g hc1 v hu hc
 cases hin : inR 0 ((l.length : Int) - 1) m with
 | false =>
  rw [if_pos hin] at hdE
  have hfin := hid (hno.out _ hdE.out (by decide))
  obtain ⟨c0, c1, f0, f1⟩ := rb.out
  obtain ⟨d0, d1, g0, g1⟩ := rc.out
  have z0 := cell_lt c0
  have z4 := cell_lt d0
  dsimp only at z0 z4
  unfold I64 at im
  by_cases hm0 : m < 0
  ·replace hin := hid hin
   clear hno hdE
   go_wp2_with fail
   refine bodyPost_ret (v := (.tuple #[.agg #[.int .i64 (0), .int .i64 (0)], .agg #[.int .i64 (0), .int .i64 (0)], .int .i64 (2)])) ?_ rfl (hfin.out _ (by have := X.out; exact exE))
   simp [results, Try.results41, go_sem, *]
  ·have hm1 : (l.length : Int) ≤ m := by unfold inR at hin; simp at hin; omega
   replace hin := hid hin
   clear hno hdE
   go_wp2_with fail
   refine bodyPost_ret (v := (.tuple #[.agg #[.int .i64 (0), .int .i64 (0)], .agg #[.int .i64 (0), .int .i64 (0)], .int .i64 (2)])) ?_ rfl (hfin.out _ (by have := X.out; exact exE))
   simp [results, Try.results41, go_sem, *]
 | true =>
 rw [if_neg (by rw [hin]; decide)] at hdE
 obtain ⟨M, rfl⟩ : ∃ M : Nat, m = (M : Int) := ⟨m.toNat, by unfold inR at hin; simp at hin; omega⟩
 have hMl : M < l.length := by unfold inR at hin; simp at hin; omega
 have hm0 : ¬ (M : Int) < 0 := by omega
 have hm1 : ¬ (l.length : Int) ≤ (M : Int) := by omega
 replace hin := hid hin
 have im := hid im
 go_wp2_with fail
 refine (hed.out _ (hM.out.ext (by have := X.out; exact exE))).mono ?_; rintro e w2 ⟨aT, cT, rfl, hT, hE⟩
 have x2 : Ext w1 w2 := exE
 replace X := hid (X.out.trans x2)
 replace rb := hid (rb.out.ext x2)
 replace rc := hid (rc.out.ext x2)
 clear hE x2 o0 o1 hed hm0 hm1 t0 t1
 by_cases h0 : (edg l u c s).length = 0
 ·rw [if_pos h0] at hdE
  have hfin := hid (hno.out _ hdE.out (by decide))
  have hz : (((edg l u c s).length : Int) == 0) = true := by rw [h0]; rfl
  replace h0 := hid h0
  obtain ⟨c0, c1, f0, f1⟩ := rb.out
  obtain ⟨d0, d1, g0, g1⟩ := rc.out
  have z0 := cell_lt c0
  have z4 := cell_lt d0
  dsimp only at z0 z4
  clear hno hdE
  go_wp2_with fail
  refine bodyPost_ret (v := (.tuple #[.agg #[.int .i64 (0), .int .i64 (0)], .agg #[.int .i64 (0), .int .i64 (0)], .int .i64 (17)])) ?_ rfl (hfin.out _ (by have := X.out; exact exE))
  simp [results, Try.results41, go_sem, *]
 rw [if_neg h0] at hdE
 have hz : (((edg l u c s).length : Int) == 0) = false := by rw [beq_eq_false_iff_ne]; omega
 obtain ⟨L, hL⟩ : ∃ L, edg l u c s = L := ⟨_, rfl⟩
 have hfin : Hid (∀ w', Ext w w' → (Ending.returned (.tuple #[.agg #[.int .i64 (shN M (shLo M L)), .int .i64 (shD M (shLo M L))], .agg #[.int .i64 (shN M (shHi M L)), .int .i64 (shD M (shHi M L))], .int .i64 (0)]) = .returned (.tuple #[.agg #[.int .i64 (nth (srX l u c s M) 0), .int .i64 (nth (srX l u c s M) 1)], .agg #[.int .i64 (nth (srX l u c s M) 2), .int .i64 (nth (srX l u c s M) 3)], .int .i64 (srE l u c s M)]) ∧ Ext w w')) := hid fun w' x => by
  have : srX l u c s M = [shN M (shLo M L), shD M (shLo M L), shN M (shHi M L), shD M (shHi M L)] := by
   unfold srX
   rw [hdE.out, if_pos rfl, hL]
   rfl
  rw [this, hdE.out]
  exact ⟨rfl, x⟩
 rw [hL] at hok h0 hz hT h1000 ⊢
 have hmem : ∀ i, i < L.length → Xok l (row L i) := fun i hi => hok.out _ (by rw [row_lt hi]; exact List.getElem_mem hi)
 obtain ⟨b, off, rfl, hb, hcc⟩ := hT.at (by omega)
 have hcc : Hid (∀ i, i < L.length → ∃ g o ci, w2.cell? ⟨b, off + i, none⟩ = some (.slice (some ⟨g, o, none⟩) l.length ci) ∧ Ints w2 (some ⟨g, o, none⟩) (row L i) ∧ w2.cell? ⟨g, o + M, none⟩ = some (.int .i64 (nth (row L i) M))) := hid fun i hi => by
  obtain ⟨ai, ci, h1, h2⟩ := hcc i hi
  have hlen := (hmem i hi).len
  obtain ⟨g, o, rfl, hb2, hc2⟩ := h2.at (by omega)
  rw [hlen] at h1
  exact ⟨g, o, ci, h1, h2, hc2 M (by omega)⟩
 have hsm := hid (fun i (hi : i < L.length) g o ci W (h : Ints W (some ⟨g, o, none⟩) (row L i)) => by have := sumR_any (row L i) (fun j => by have := (hmem i hi).prt j; omega) (by rw [(hmem i hi).len]; have := n6.out; omega) (some ⟨g, o, none⟩) ci W h; rw [(hmem i hi).len] at this; exact this)
 change Hid (∀ i, i < L.length → ∀ (g o ci : Nat) W, Ints W (some ⟨g, o, none⟩) (row L i) → Calls Try.prog 49 #[.slice (some ⟨g, o, none⟩) l.length ci] W fun e w' => e = .returned (.int .i64 (psum (row L i))) ∧ Ext W w') at hsm
 have hby := hid (fun i (hi : i < L.length) W => by_sh (hmem i hi) n6.out M W)
 have hls := hid (fun i j (hi : i < L.length) (hj : j < L.length) W => lessR_any (shN M (row L i)) (shD M (row L i)) (shN M (row L j)) (shD M (row L j)) ((sh_ok (hmem i hi) n6.out M).mul (sh_ok (hmem j hj) n6.out M)) ((sh_ok (hmem j hj) n6.out M).mul (sh_ok (hmem i hi) n6.out M)) W)
 obtain ⟨NN, hNN⟩ : ∃ f : Nat → Int, (fun i => shN M (row L i)) = f := ⟨_, rfl⟩
 obtain ⟨DD, hDD⟩ : ∃ f : Nat → Int, (fun i => shD M (row L i)) = f := ⟨_, rfl⟩
 have e1 : ∀ i, shN M (row L i) = NN i := fun i => by rw [← hNN]
 have e2 : ∀ i, shD M (row L i) = DD i := fun i => by rw [← hDD]
 obtain ⟨lt, hlt⟩ : ∃ lt : Nat → Nat → Bool, (fun i j => lessB (NN i) (DD i) (NN j) (DD j)) = lt := ⟨_, rfl⟩
 have e3 : ∀ i j, lessB (NN i) (DD i) (NN j) (DD j) = lt i j := fun i j => by rw [← hlt]
 obtain ⟨gt, hgt⟩ : ∃ gt : Nat → Nat → Bool, (fun i j => lt j i) = gt := ⟨_, rfl⟩
 have e4 : ∀ i j, lt j i = gt i j := fun i j => by rw [← hgt]
 have hlo : shLo M L = row L (bstN lt (L.length - 1)) := by unfold shLo; simp only [e1, e2, hlt]
 have hhi : shHi M L = row L (bstN gt (L.length - 1)) := by unfold shHi; simp only [e1, e2, e3, hgt]
 rw [hlo, hhi] at hfin
 simp only [e1, e2] at hfin hby hls
 simp only [e3] at hls
 have hst := hid (ixN_step lt)
 have hsu := hid (ixN_step gt)
 have hix := hid (fun j (h : j ≤ L.length) => ixN_lt lt h (show 0 < L.length by omega))
 have hiy := hid (fun j (h : j ≤ L.length) => ixN_lt gt h (show 0 < L.length by omega))
 have hi0 : Hid (ixN lt 0 = 0) := hid rfl
 have hk0 : Hid (ixN gt 0 = 0) := hid rfl
 have hiE : Hid (bstN lt (L.length - 1) = ixN lt L.length) := hid (by unfold ixN; rw [if_neg h0])
 have hkE : Hid (bstN gt (L.length - 1) = ixN gt L.length) := hid (by unfold ixN; rw [if_neg h0])
 have hgl : Hid (∀ i j, gt i j = lt j i) := hid fun i j => (e4 i j).symm
 obtain ⟨I, hI⟩ : ∃ I, ixN lt = I := ⟨_, rfl⟩
 obtain ⟨K, hK⟩ : ∃ I, ixN gt = I := ⟨_, rfl⟩
 rw [hI] at hst hix hi0 hiE
 rw [hK] at hsu hiy hk0 hkE
 rw [hiE.out, hkE.out] at hfin
 obtain ⟨SS, hSS⟩ : ∃ f : Nat → Int, (fun i => psum (row L i)) = f := ⟨_, rfl⟩
 obtain ⟨YY, hYY⟩ : ∃ f : Nat → Int, (fun i => nth (row L i) M) = f := ⟨_, rfl⟩
 have e5 : ∀ i, psum (row L i) = SS i := fun i => by rw [← hSS]
 have e6 : ∀ i, nth (row L i) M = YY i := fun i => by rw [← hYY]
 simp only [e5, e6] at hcc hsm hby
 obtain ⟨n, hn⟩ : ∃ n, L.length = n := ⟨_, rfl⟩
 rw [hn] at hcc hsm hby hls hix hiy hfin h0 hz h1000 ⊢
 obtain ⟨g0, o0, c0, k0, i0, y0⟩ := hcc.out 0 (by omega)
 rw [Nat.add_zero] at k0
 replace i0 := hid i0
 have hML : (M : Int) < (l.length : Int) := by omega
 obtain ⟨ln, hln⟩ : ∃ z, l.length = z := ⟨_, rfl⟩
 rw [hln] at hML hMl hsm hcc k0
 have hcc0 := hid hcc.out
 clear hok hT hL hmem hNN hDD e1 e2 e3 e4 e5 e6 hlt hgt hI hK hiE hkE hdE hno hV hlo hhi hSS hYY hln hn n1 n6 hin im hM hcc
 have h0p : (0 : Int) < (n : Int) := by omega
 replace h0 := hid h0
 go_upto_region 8 with (fail)
 refine wp_mono (stS8 (J := 0) rfl h0p hML (fun W hW => hsm.out 0 (by omega) g0 o0 c0 W (i0.out.ext hW)) (fun W => hby.out 0 (by omega) W) k0 y0) ?_
 rintro e a' w3 ⟨rfl, BL, v1, v4, v7, rfl, x3, b0, b1, f0, f1, hBL⟩
 have hBLl := cell_lt b0
 dsimp only at hBLl
 clear k0 y0 i0
 go_wp2_with fail
 refine name_wp (fun w4 hw4 => ?_)
 have x4 : Ext w3 w4 := by rw [hw4]; exact exE
 have bl := hid (show Bx2 w4 BL (NN 0) (DD 0) from ⟨x4.cell b0, x4.cell b1, (x4.frozen (cell_lt b0)).trans f0, (x4.frozen (cell_lt b1)).trans f1⟩)
 have bh := hid (show Bx2 w4 w3.heap.size (NN 0) (DD 0) from ⟨by rw [hw4]; simp [go_sem], by rw [hw4]; simp [go_sem], by rw [hw4]; simp [go_sem], by rw [hw4]; simp [go_sem]⟩)
 have x24 := hid (x3.trans x4)
 have z9 := hid hBL
 obtain ⟨BH, hBH⟩ : ∃ B, w3.heap.size = B := ⟨_, rfl⟩
 rw [hBH] at bh hBLl ⊢
 have hne1 := hid (show BL ≠ BH by omega)
 have z10 := hid (show w2.heap.size ≤ BH by omega)
 clear hw4 x3 x4 b0 b1 f0 f1 hBL hBH hBLl
 go_loopw [14] (fun i wr => ∃ j : Nat, j ≤ n ∧ i = .int .i64 j ∧ Hid (Ext w2 wr) ∧ Hid (Bx2 wr BL (NN (I j)) (DD (I j))) ∧ Hid (Bx2 wr BH (NN (K j)) (DD (K j)))) (fun i _ => (n - intOf i).toNat)
 case atStart => exact ⟨0, by omega, rfl, x24, by rw [hi0.out]; exact bl, by rw [hk0.out]; exact bh⟩
 case round =>
  obtain ⟨j, hj, rfl, hw, hB, hC⟩ := hrel
  by_cases hjl : j < n
  ·obtain ⟨gj, oj, cj, kj, ij, yj⟩ := hcc0.out j hjl
   replace kj := hw.out.cell kj
   replace yj := hw.out.cell yj
   have ij := hid (ij.ext hw.out)
   have hs := hid (hst.out j)
   have hs2 := hid (hsu.out j)
   have hIj := hix.out j (by omega)
   have hKj := hiy.out j (by omega)
   have hcal := hid (hls.out j (I j) hjl hIj)
   have hcal2 := hid (hls.out (K j) j hKj hjl)
   obtain ⟨bb, hbb⟩ : ∃ z, I j = z := ⟨_, rfl⟩
   obtain ⟨kk, hkk⟩ : ∃ z, K j = z := ⟨_, rfl⟩
   rw [hbb] at hs hcal hB
   rw [hkk] at hs2 hcal2 hC
   rw [hgl.out] at hs2
   have hjI : (j : Int) < (n : Int) := by omega
   have tj := Go.IntWalk.i64_in ((j : Int) + 1) (by omega)
   clear hbb hkk hIj hKj
   go_upto_region 13 with (fail)
   refine wp_mono (stS13 rfl hjI hML (fun W hW => hsm.out j (by omega) gj oj cj W (ij.out.ext hW)) (fun W => hby.out j (by omega) W) kj yj) ?_
   rintro e a' w5 ⟨rfl, BJ, v2, v5, v9, rfl, x5, p0, p1, f0, f1, hBJ⟩
   clear kj yj ij
   replace hw := hid (hw.out.trans x5)
   have hsz := hB.out.lt
   have hnJ := hid (show BL ≠ BJ by have := hB.out.lt; omega)
   have hnK := hid (show BH ≠ BJ by have := hC.out.lt; omega)
   replace hB := hid (hB.out.ext x5)
   replace hC := hid (hC.out.ext x5)
   clear x5 hsz hBJ
   obtain ⟨Pj, hPj⟩ : ∃ z, NN j = z := ⟨_, rfl⟩
   obtain ⟨Qj, hQj⟩ : ∃ z, DD j = z := ⟨_, rfl⟩
   rw [hPj, hQj] at hcal hcal2
   rw [hPj] at p0
   rw [hQj] at p1
   obtain ⟨b0, b1, bf0, bf1⟩ := hB.out
   go_wp2_with fail
   refine (hcal.out _).mono ?_; rintro e w6 ⟨rfl, hE⟩
   have x6 : Ext w5 w6 := exE
   replace hw := hid (hw.out.trans x6)
   replace p0 := x6.cell p0
   replace p1 := x6.cell p1
   replace hB := hid (hB.out.ext x6)
   replace hC := hid (hC.out.ext x6)
   clear hE x6 b0 b1 bf0 bf1
   have lJ := cell_lt p0
   obtain ⟨b0, b1, bf0, bf1⟩ := hB.out
   obtain ⟨c0, c1, cf0, cf1⟩ := hC.out
   have lB := cell_lt b0
   have lC := cell_lt c0
   dsimp only at lJ lB lC
   have hww := hw.out
   have hz9 := z9.out
   have hz10 := z10.out
   have hne := hne1.out
   have hnj := hnJ.out
   have hnj' := hnJ.out.symm
   cases hg : lt j bb with
   | true =>
    rw [hg, if_pos rfl] at hs
    go_wp2_with fail
    refine name_c (fun w7 hw7 => ?_)
    have X7 : Ext w2 w7 := by rw [hw7]; exact exE
    have B7 : Bx2 w7 BL Pj Qj := by rw [hw7]; exact Bx2.store hB.out _ _
    have C7 : Bx2 w7 BH (NN kk) (DD kk) := by rw [hw7]; exact Bx2.put (Bx2.put hC.out hne.symm _) hne.symm _
    have q0 : w7.cell? ⟨BJ, 0, none⟩ = some (.int .i64 Pj) := by rw [hw7]; exact box_put hnJ.out.symm (box_put hnJ.out.symm p0)
    have q1 : w7.cell? ⟨BJ, 1, none⟩ = some (.int .i64 Qj) := by rw [hw7]; exact box_put hnJ.out.symm (box_put hnJ.out.symm p1)
    clear hw7 hww p0 p1 b0 b1 bf0 bf1 c0 c1 cf0 cf1 lJ lB lC
    replace hB := hid B7
    replace hC := hid C7
    refine (hcal2.out _).mono ?_; rintro e w8 ⟨rfl, hE⟩
    have x8 : Ext w7 w8 := exE
    replace hw := hid (X7.trans x8)
    replace hB := hid (hB.out.ext x8)
    replace hC := hid (hC.out.ext x8)
    have p0 := x8.cell q0
    have p1 := x8.cell q1
    clear hE x8 q0 q1 X7 B7 C7
    obtain ⟨c0, c1, cf0, cf1⟩ := hC.out
    have lJ := cell_lt p0
    have lC := cell_lt c0
    dsimp only at lJ lC
    have hww := hw.out
    cases hg2 : lt kk j with
    | true =>
     rw [hg2, if_pos rfl] at hs2
     go_wp2_with fail
     have BB := hid (Bx2.put (Bx2.put hB.out (c := BH) (o := 0) hne1.out (.int .i64 Pj)) (c := BH) (o := 1) hne1.out (.int .i64 Qj))
     have CC := hid (Bx2.store hC.out Pj Qj)
     go_roundw
     case rel => exact ⟨j + 1, by omega, by go_num, hid (by have := hw.out; exact exE), hid (by rw [hs.out]; simpa only [hPj, hQj] using BB.out), hid (by rw [hs2.out, hPj, hQj]; exact CC.out)⟩
     case measure => simp [intOf]; omega
    | false =>
     rw [hg2, if_neg (by decide)] at hs2
     go_wp2_with fail
     go_roundw
     case rel => exact ⟨j + 1, by omega, by go_num, hw, hid (by rw [hs.out]; simpa only [hPj, hQj] using hB.out), hid (by rw [hs2.out]; exact hC.out)⟩
     case measure => simp [intOf]; omega
   | false =>
    rw [hg, if_neg (by decide)] at hs
    go_wp2_with fail
    refine name_c (fun w7 hw7 => ?_)
    have X7 : Ext w2 w7 := by rw [hw7]; exact exE
    have B7 : Bx2 w7 BL (NN bb) (DD bb) := by rw [hw7]; exact hB.out
    have C7 : Bx2 w7 BH (NN kk) (DD kk) := by rw [hw7]; exact hC.out
    have q0 : w7.cell? ⟨BJ, 0, none⟩ = some (.int .i64 Pj) := by rw [hw7]; exact p0
    have q1 : w7.cell? ⟨BJ, 1, none⟩ = some (.int .i64 Qj) := by rw [hw7]; exact p1
    clear hw7 hww p0 p1 b0 b1 bf0 bf1 c0 c1 cf0 cf1 lJ lB lC
    replace hB := hid B7
    replace hC := hid C7
    refine (hcal2.out _).mono ?_; rintro e w8 ⟨rfl, hE⟩
    have x8 : Ext w7 w8 := exE
    replace hw := hid (X7.trans x8)
    replace hB := hid (hB.out.ext x8)
    replace hC := hid (hC.out.ext x8)
    have p0 := x8.cell q0
    have p1 := x8.cell q1
    clear hE x8 q0 q1 X7 B7 C7
    obtain ⟨c0, c1, cf0, cf1⟩ := hC.out
    have lJ := cell_lt p0
    have lC := cell_lt c0
    dsimp only at lJ lC
    have hww := hw.out
    cases hg2 : lt kk j with
    | true =>
     rw [hg2, if_pos rfl] at hs2
     go_wp2_with fail
     have BB := hid (Bx2.put (Bx2.put hB.out (c := BH) (o := 0) hne1.out (.int .i64 Pj)) (c := BH) (o := 1) hne1.out (.int .i64 Qj))
     have CC := hid (Bx2.store hC.out Pj Qj)
     go_roundw
     case rel => exact ⟨j + 1, by omega, by go_num, hid (by have := hw.out; exact exE), hid (by rw [hs.out]; simpa only [] using BB.out), hid (by rw [hs2.out, hPj, hQj]; exact CC.out)⟩
     case measure => simp [intOf]; omega
    | false =>
     rw [hg2, if_neg (by decide)] at hs2
     go_wp2_with fail
     go_roundw
     case rel => exact ⟨j + 1, by omega, by go_num, hw, hid (by rw [hs.out]; simpa only [] using hB.out), hid (by rw [hs2.out]; exact hC.out)⟩
     case measure => simp [intOf]; omega
  ·have hjn : j = n := by omega
   subst hjn
   obtain ⟨c0, c1, g0, g1⟩ := rb.out.ext hw.out
   obtain ⟨d0, d1, h0, h1⟩ := rc.out.ext hw.out
   obtain ⟨p0, p1, _, _⟩ := hB.out
   obtain ⟨q0, q1, _, _⟩ := hC.out
   have z0 := cell_lt c0
   have z4 := cell_lt d0
   dsimp only at z0 z4
   have XX := hid (X.out.trans hw.out)
   have hneA := hid (show BL ≠ w.heap.size + 1 ∧ BL ≠ w.heap.size + 2 from by have := rb.out.lt; have := rc.out.lt; have := z9.out; omega)
   have hneB := hid (show BH ≠ w.heap.size + 1 ∧ BH ≠ w.heap.size + 2 from by have := rb.out.lt; have := rc.out.lt; have := z10.out; omega)
   have rb' := hid (rb.out.ext hw.out)
   have rc' := hid (rc.out.ext hw.out)
   obtain ⟨N1, hN1⟩ : ∃ z, NN (I j) = z := ⟨_, rfl⟩
   obtain ⟨D1, hD1⟩ : ∃ z, DD (I j) = z := ⟨_, rfl⟩
   obtain ⟨N2, hN2⟩ : ∃ z, NN (K j) = z := ⟨_, rfl⟩
   obtain ⟨D2, hD2⟩ : ∃ z, DD (K j) = z := ⟨_, rfl⟩
   rw [hN1, hD1, hN2, hD2] at hfin
   rw [hN1] at p0; rw [hD1] at p1; rw [hN2] at q0; rw [hD2] at q1
   go_upto_region 18 with (fail)
   refine wp_region_held_drew (S := fun w' => Ext w w' ∧ w'.cell? ⟨BL, 0, none⟩ = some (.int .i64 N1) ∧ w'.cell? ⟨BL, 1, none⟩ = some (.int .i64 D1) ∧ w'.cell? ⟨BH, 0, none⟩ = some (.int .i64 N2) ∧ w'.cell? ⟨BH, 1, none⟩ = some (.int .i64 D2)) (by kernel_rfl) ⟨by have := XX.out; exact exE, p0, p1, q0, q1⟩ fun hHeld0 => ?_
   refine name_any (fun W0 hW => ?_)
   have xd : Ext wr W0 := by rw [hW]; exact exE
   have hHeld := hHeld0
   rw [← hW] at hHeld
   clear hHeld0 hW
   (refine tkA (i := 0) (v := ?_) rfl (fun _ _ _ h => h) (Or.inl ⟨by rfl, ?yl⟩) (by assumption) ?_; (case yl => ((intro w hSw; (try dsimp only at hSw); obtain ⟨_, kk0, kk1, kk2, kk3⟩ := hSw; go_simp); with_reducible rfl)); (try simp only [sxA, sxB, sxC, Act.put, sxD, sxE, sxF]))
   (refine tkA (i := 1) (v := ?_) rfl (fun _ _ _ h => h) (Or.inl ⟨by rfl, ?yl⟩) (by assumption) ?_; (case yl => ((intro w hSw; (try dsimp only at hSw); obtain ⟨_, kk0, kk1, kk2, kk3⟩ := hSw; go_simp); with_reducible rfl)); (try simp only [sxA, sxB, sxC, Act.put, sxD, sxE, sxF]))
   try simp only [sxA, sxB, sxC, Act.put, sxD, sxE, sxF]
   obtain ⟨cA, cB, fA, fB⟩ := rb'.out.ext xd
   obtain ⟨dA, dB, gA, gB⟩ := rc'.out.ext xd
   have y0 := cell_lt cA
   have y4 := cell_lt dA
   dsimp only at y0 y4
   clear c0 c1 g0 g1 d0 d1 h0 h1 z0 z4
   (refine wpAnyH_ready (rs := [2]) (by kernel_rfl) (by simp) ?_; refine AllReadyH.cons (o := _) rfl (fun K hK => ?_) AllReadyH.nil)
   go_simp
   obtain ⟨w7, hw7⟩ : ∃ w7, w7 = (W0.setCell ⟨w.heap.size + 1, 0, none⟩ (.int .i64 N1)).setCell ⟨w.heap.size + 1, 1, none⟩ (.int .i64 D1) := ⟨_, rfl⟩
   have X7 : Ext w w7 := by rw [hw7]; have := XX.out.trans xd; exact exE
   have P0 : w7.cell? ⟨BL, 0, none⟩ = some (.int .i64 N1) := by rw [hw7]; exact box_put hneA.out.1 (box_put hneA.out.1 (xd.cell p0))
   have P1 : w7.cell? ⟨BL, 1, none⟩ = some (.int .i64 D1) := by rw [hw7]; exact box_put hneA.out.1 (box_put hneA.out.1 (xd.cell p1))
   have Q0 : w7.cell? ⟨BH, 0, none⟩ = some (.int .i64 N2) := by rw [hw7]; exact box_put hneB.out.1 (box_put hneB.out.1 (xd.cell q0))
   have Q1 : w7.cell? ⟨BH, 1, none⟩ = some (.int .i64 D2) := by rw [hw7]; exact box_put hneB.out.1 (box_put hneB.out.1 (xd.cell q1))
   have A7 : Bx2 w7 (w.heap.size + 1) N1 D1 := by rw [hw7]; exact Bx2.store ⟨cA, cB, fA, fB⟩ _ _
   have B7 : Bx2 w7 (w.heap.size + 2) 0 0 := by rw [hw7]; exact Bx2.put (Bx2.put ⟨dA, dB, gA, gB⟩ (by omega) _) (by omega) _
   rw [← hw7]
   clear hw7
   refine hK.out _ _ ⟨X7, P0, P1, Q0, Q1⟩ (fun hHeld => ?_)
   clear hK
   try simp only [sxA, sxB, sxC, Act.put, sxD, sxE, sxF]
   clear cA cB fA fB dA dB gA gB y0 y4
   obtain ⟨dA, dB, gA, gB⟩ := B7
   have y4 := cell_lt dA
   dsimp only at y4
   (refine wpAnyH_ready (rs := [3]) (by kernel_rfl) (by simp) ?_; refine AllReadyH.cons (o := _) rfl (fun K hK => ?_) AllReadyH.nil)
   go_simp
   obtain ⟨w8, hw8⟩ : ∃ w8, w8 = (w7.setCell ⟨w.heap.size + 1 + 1, 0, none⟩ (.int .i64 N2)).setCell ⟨w.heap.size + 1 + 1, 1, none⟩ (.int .i64 D2) := ⟨_, rfl⟩
   have X8 : Ext w w8 := by rw [hw8]; exact exE
   have R0 : w8.cell? ⟨BL, 0, none⟩ = some (.int .i64 N1) := by rw [hw8]; exact box_put hneA.out.2 (box_put hneA.out.2 P0)
   have R1 : w8.cell? ⟨BL, 1, none⟩ = some (.int .i64 D1) := by rw [hw8]; exact box_put hneA.out.2 (box_put hneA.out.2 P1)
   have S0 : w8.cell? ⟨BH, 0, none⟩ = some (.int .i64 N2) := by rw [hw8]; exact box_put hneB.out.2 (box_put hneB.out.2 Q0)
   have S1 : w8.cell? ⟨BH, 1, none⟩ = some (.int .i64 D2) := by rw [hw8]; exact box_put hneB.out.2 (box_put hneB.out.2 Q1)
   have A8 : Bx2 w8 (w.heap.size + 1) N1 D1 := by rw [hw8]; exact Bx2.put (Bx2.put A7 (by omega) _) (by omega) _
   have B8 : Bx2 w8 (w.heap.size + 2) N2 D2 := by rw [hw8]; exact Bx2.store ⟨dA, dB, gA, gB⟩ _ _
   rw [← hw8]
   clear hw8
   refine hK.out _ _ ⟨X8, R0, R1, S0, S1⟩ (fun hHeld => ?_)
   clear hK
   try simp only [sxA, sxB, sxC, Act.put, sxD, sxE, sxF]
   (refine tkA (i := 4) (v := ?_) rfl (fun _ _ _ h => h) (Or.inl ⟨by rfl, ?yl⟩) (by assumption) ?_; (case yl => ((intro w hSw; (try dsimp only at hSw); obtain ⟨_, kk0, kk1, kk2, kk3⟩ := hSw; go_simp); with_reducible rfl)); (try simp only [sxA, sxB, sxC, Act.put, sxD, sxE, sxF]))
   refine wpAnyH_done (by kernel_rfl) ?_ _
   clear A7 dA dB gA gB y4
   obtain ⟨c0, c1, _, _⟩ := A8
   obtain ⟨d0, d1, _, _⟩ := B8
   have X8 := hid X8
   go_wp2_with fail
   refine bodyPost_ret (v := (.tuple #[.agg #[.int .i64 (N1), .int .i64 (D1)], .agg #[.int .i64 (N2), .int .i64 (D2)], .int .i64 (0)])) ?_ rfl (hfin.out _ X8.out)
   simp [results, Try.results41, go_sem, *]
end Go.Proofs.Ytpnfhcnnodolbaa
