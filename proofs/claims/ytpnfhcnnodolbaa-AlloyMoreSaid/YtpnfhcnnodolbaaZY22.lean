/- Texts of one proof, laid together: Ph. -/
import Derived.Test.YtpnfhcnnodolbaaZY10
import Derived.Test.YtpnfhcnnodolbaaZY20
import Derived.WalkMore
set_option linter.unusedVariables false
set_option linter.unusedSimpArgs false
set_option linter.unusedSectionVars false
set_option linter.unnecessarySimpa false
set_option maxRecDepth 100000
namespace Go.Proofs.Ytpnfhcnnodolbaa
open Go Go.RowKit Game
theorem el1 {w : World} {x : Value} {t : TypeId} {n : Nat} (h : n = w.heap.size) : ∀ i, i < 1 → ∀ r, r < 1 → (w.alloc (.cells #[x] t)).cell? ⟨n, 0 + i * 1 + r, none⟩ = some x := by
 intro i hi r hr
 obtain rfl : i = 0 := by omega
 obtain rfl : r = 0 := by omega
 subst h
 simp [go_sem]
theorem el1x {w : World} {x : Value} {n : Nat} (h : w.cell? ⟨n, 0, none⟩ = some x) : ∀ i, i < 1 → ∀ r, r < 1 → w.cell? ⟨n, 0 + i * 1 + r, none⟩ = some x := by
 intro i hi r hr
 obtain rfl : i = 0 := by omega
 obtain rfl : r = 0 := by omega
 exact h
theorem grq {W W' : World} {n q : Nat} {x y : Int} {Y : Nat → Nat → Int} (h0 : W.cell? ⟨n, 0, none⟩ = some (.int .i64 x)) (h1 : W.cell? ⟨n, 1, none⟩ = some (.int .i64 y)) (f0 : W.frozen? ⟨n, 0, none⟩ = false) (f1 : W.frozen? ⟨n, 1, none⟩ = false) (hy : Y q 0 = x ∧ Y q 1 = y) (k : Ext W W') :
 ∀ j, j < 2 → W'.cell? ⟨n, j, none⟩ = some (.int .i64 (Y q j)) ∧ W'.frozen? ⟨n, j, none⟩ = false := by
 intro j hj
 have : j = 0 ∨ j = 1 := by omega
 rcases this with rfl | rfl
 ·rw [hy.1]; exact ⟨k.cell h0, (k.frozen (cell_lt h0)).trans f0⟩
 ·rw [hy.2]; exact ⟨k.cell h1, (k.frozen (cell_lt h1)).trans f1⟩
theorem getD_left {L : List Nat} {x r : Nat} (h : r < L.length) : (L ++ [x]).getD r 0 = L.getD r 0 := by
 simp [List.getD_eq_getElem?_getD, List.getElem?_append_left h]
theorem getD_last {L : List Nat} {x : Nat} : (L ++ [x]).getD L.length 0 = x := by
 simp [List.getD_eq_getElem?_getD]
theorem OwnI.full {w : World} {base : Nat} {e : TypeId} {v : Value} {l : List Int} (h : OwnI w base e v l) (h0 : 0 < l.length) : ∃ g cap, v = .slice (some ⟨g, 0, none⟩) l.length cap ∧ base ≤ g ∧ g < w.heap.size ∧ l.length ≤ cap ∧ ∀ j, j < l.length → w.cell? ⟨g, j, none⟩ = some (.int .i64 (nth l j)) ∧ w.frozen? ⟨g, j, none⟩ = false := by
 have hh := h
 obtain ⟨h1, ⟨_, h2⟩ | ⟨g, cap, cur, rfl, hb, hg, hn, hm, hs, ht⟩⟩ := h
 ·omega
 ·refine ⟨g, cap, rfl, hb, lt_of_heap hg, hn, fun j hj => ?_⟩
  have := hh.facts hj
  exact ⟨this.1, this.2.1⟩
set_option maxHeartbeats 1000000 in
theorem parts_any (l : List Met) (v : VldM l) (u c : Int) (hu : 0 ≤ u ∧ u ≤ 1000) (hc : 0 ≤ c ∧ c ≤ 1000) (s : Bool) (D : Nat) (t : List Nat) (ht : ∀ i, i < t.length → t.getD i 0 < l.length) (h1 : 1 ≤ t.length) (h3 : t.length ≤ 3) (a : Option Addr) (cap : Nat) (w : World) (hP : Pot w D l u c s) (hI : Ints w a (asI t)) :
 Calls Try.prog 105 #[(.pointer (some ⟨D, 0, none⟩)), .slice a t.length cap] w (RetB (ptL (ovr l u c s) t) w) := by
 have hlen : (asI t).length = t.length := by simp [asI]
 have hnt : ∀ k, k < t.length → nth (asI t) k = (t.getD k 0 : Nat) := fun k hk => by
  simp [asI, nth, List.getD_eq_getElem?_getD, List.getElem?_map, List.getElem?_eq_getElem hk]
 obtain ⟨b, off, rfl, hbl, hc1⟩ := hI.at (by omega)
 rw [hlen] at hc1
 have HC : Hid (∀ i, i < t.length → w.cell? ⟨b, off + i, none⟩ = some (.int .i64 (t.getD i 0 : Nat))) := hid fun i hi => by rw [← hnt i hi]; exact hc1 i hi
 have cO : Hid (∀ (i k : Nat) W, i < t.length → (k = 1 ∨ k = 2) → Ext w W → Calls Try.prog 112 #[(.pointer (some ⟨D, 0, none⟩)), .int .i64 (t.getD i 0 : Nat), .int .i64 k] W fun e w' => e = .returned (.int .i64 (ovr l u c s (t.getD i 0) k)) ∧ Ext W w') := hid fun i k W hi hk hx => over_any l v u c hu hc s D (t.getD i 0) k (ht i hi) hk W (hP.ext hx)
 have hY : Hid (∀ j k, -2000000 ≤ cndY (ovr l u c s) t j k ∧ cndY (ovr l u c s) t j k ≤ 2000000) := hid fun j k => cndY_bd (fun i k => ovr_bd v hu hc s i k) t j k
 have hob : Hid (∀ i k, -1000 ≤ ovr l u c s i k ∧ ovr l u c s i k ≤ 1000) := hid fun i k => ovr_bd v hu hc s i k
 have hYd : Hid (∀ j k, cndY (ovr l u c s) t j k = if t.length = 1 then 1 else if t.length = 2 then (if k = 0 then ovr l u c s (t.getD 1 0) (j + 1) else - ovr l u c s (t.getD 0 0) (j + 1)) else triP (ovr l u c s) (t.getD ((k + 1) % 3) 0) (t.getD ((k + 2) % 3) 0)) := hid fun j k => rfl
 have hres : Hid (ptL (ovr l u c s) t = (kptL t.length (cndY (ovr l u c s) t) (cndN t)).map fun j => mkL t.length (nrmY t.length (cndY (ovr l u c s) t j))) := hid rfl
 have hcn : Hid (cndN t = if t.length = 2 then 2 else 1) := hid rfl
 obtain ⟨R, hR⟩ : ∃ R, ptL (ovr l u c s) t = R := ⟨_, rfl⟩
 rw [hR] at hres ⊢
 obtain ⟨Y, hYe⟩ : ∃ Y, cndY (ovr l u c s) t = Y := ⟨_, rfl⟩
 rw [hYe] at hY hYd hres
 obtain ⟨O, hO⟩ : ∃ O, ovr l u c s = O := ⟨_, rfl⟩
 rw [hO] at cO hob hYd
 obtain ⟨T, hT⟩ : ∃ T, (fun i => t.getD i 0) = T := ⟨_, rfl⟩
 have hTe : ∀ i, t.getD i 0 = T i := fun i => by rw [← hT]
 simp only [hTe] at HC cO hYd
 obtain ⟨n, hn⟩ : ∃ n, cndN t = n := ⟨_, rfl⟩
 rw [hn] at hcn hres
 obtain ⟨m, hm⟩ : ∃ m, t.length = m := ⟨_, rfl⟩
 rw [hm] at HC cO hYd hres hcn h1 h3 ⊢
 have hnb : 1 ≤ n ∧ n ≤ 2 := by rw [hcn.out]; split <;> omega
 clear hlen hnt hc1 ht hP hI hR hYe hO hT hTe hn hm v hu hc
 go_enter Try.func105, Try.ntmps105
 go_wp2_with fail
 go_step3
 go_upto_block 0 with (fail)
 go_cut [5] (fun all wx => ∃ B C : Nat → Nat, Hid (Cnd w wx all n m B C Y))
 case first =>
  have hm3 : m = 1 ∨ m = 2 ∨ m = 3 := by omega
  rcases hm3 with rfl | rfl | rfl
  ·have hn1 : n = 1 := hcn.out
   subst hn1
   have y0 : Hid (∀ j k, Y j k = 1) := hid fun j k => by rw [hYd.out]; rfl
   go_wp2_with fail
   go_meet
   case rel =>
    refine ⟨fun _ => w.heap.size, fun _ => 1, hid ⟨⟨w.heap.size + 1, 1, by simp, by omega, by simp, fun j hj => ?_, fun j hj => by omega⟩, fun j k hj hk => ?_, fun i j hi hj hne => by omega, fun j hj => ⟨by omega, by simp; omega, by omega⟩, exE⟩⟩
    ·obtain rfl : j = 0 := by omega
     simp [go_sem]
    ·obtain rfl : k = 0 := by omega
     rw [y0.out]
     simp [go_sem]
  ·have hn2 : n = 2 := hcn.out
   subst hn2
   have y0 : Hid (∀ j, Y j 0 = O (T 1) (j + 1) ∧ Y j 1 = - O (T 0) (j + 1)) := hid fun j => ⟨by rw [hYd.out]; rfl, by rw [hYd.out]; rfl⟩
   have r0 := HC.out 0 (by omega)
   have r1 := HC.out 1 (by omega)
   have cA := hid (fun (k : Nat) W (hk : k = 1 ∨ k = 2) hx => cO.out 0 k W (by omega) hk hx)
   have cB := hid (fun (k : Nat) W (hk : k = 1 ∨ k = 2) hx => cO.out 1 k W (by omega) hk hx)
   obtain ⟨i0, hi0⟩ : ∃ z, T 0 = z := ⟨_, rfl⟩
   obtain ⟨i1, hi1⟩ : ∃ z, T 1 = z := ⟨_, rfl⟩
   rw [hi0] at y0 r0 cA
   rw [hi1] at y0 r1 cB
   rw [Nat.add_zero] at r0
   have R0 := hid r0
   have R1 := hid r1
   clear hi0 hi1 hYd cO r0 r1
   go_wp2_with fail
   go_loopw [5, 6] (fun all k wr => ∃ q : Nat, 1 ≤ q ∧ q ≤ 3 ∧ k = .int .i64 q ∧ ∃ B C : Nat → Nat, Hid (Gro w wr all (q - 1) 2 B C Y)) (fun _ k _ => (3 - intOf k).toNat)
   case atStart => exact ⟨1, by omega, by omega, rfl, fun _ => 0, fun _ => 0, hid ⟨OwnG.nil _ _ _ _ _, fun j k hj => by omega, fun i j hi => by omega, fun j hj => by omega, fun j hj => by omega, Ext.refl _⟩⟩
   case round =>
    obtain ⟨q, hq1, hq3, rfl, B, C, hG⟩ := hrel
    have HX := hid hG.out.x
    by_cases hq : q < 3
    ·have hk : q = 1 ∨ q = 2 := by omega
     have hqI : (q : Int) ≤ 2 := by omega
     have yq : Hid (Y (q - 1) 0 = O i1 q ∧ Y (q - 1) 1 = - O i0 q) := hid (by have := y0.out (q - 1); rwa [show q - 1 + 1 = q by omega] at this)
     have kA := hid (fun W hx => cA.out q W hk hx)
     have kB := hid (fun W hx => cB.out q W hk hx)
     have b0 := hob.out i0 q
     have b1 := hob.out i1 q
     obtain ⟨x0, hx0⟩ : ∃ z, O i0 q = z := ⟨_, rfl⟩
     obtain ⟨x1, hx1⟩ : ∃ z, O i1 q = z := ⟨_, rfl⟩
     rw [hx0] at kA yq b0
     rw [hx1] at kB yq b1
     have t1 := Go.IntWalk.i64_in (-x0) (by omega)
     have t2 := Go.IntWalk.i64_in ((q : Int) + 1) (by omega)
     have r0 := HX.out.cell R0.out
     have r1 := HX.out.cell R1.out
     have xw := HX.out
     have hzw := HX.out.size
     have hblk := hid hG.out.o.block
     clear hx0 hx1 hk b0 b1
     go_wp2_with fail
     refine name_act (fun A_ hA_ => ?_)
     obtain ⟨Q2, hQ2⟩ : ∃ Q2 : Exit → Act → World → Prop, Q2 = fun e a' w' => e = .normal ∧ ∃ (b9 : Nat) (cp9 : Nat) (bq9 : Nat) (v0_ v1_ v2_ v3_ v4_ v5_ v7_ v8_ v9_ v10_ v11_ v14_ v15_ : Value), a' = ((((((((((((((((((A_.put (some 65) (v0_)).put (some 66) (v1_)).put (some 67) (v2_)).put (some 68) (v3_)).put (some 69) (v4_)).put (some 70) (v5_)).put (some 71) (.int .i64 x1)).put (some 72) (v7_)).put (some 73) (v8_)).put (some 74) (v9_)).put (some 75) (v10_)).put (some 76) (v11_)).put (some 77) (.int .i64 x0)).put (some 78) (.int .i64 (-x0))).put (some 79) (v14_)).put (some 80) (v15_)).put (some 81) (.slice (some ⟨b9, 0, none⟩) q cp9)).put (some 5) (.slice (some ⟨b9, 0, none⟩) q cp9)) ∧ Ext w w' ∧ Gro w w' (.slice (some ⟨b9, 0, none⟩) q cp9) q 2 (fun j => if j < q - 1 then B j else bq9) (fun j => if j < q - 1 then C j else 2) Y := ⟨_, rfl⟩
     have hpan : ∀ c a a' w w', Q2 (.panic c) a w → Q2 (.panic c) a' w' := by rw [hQ2]; rintro c a a' w w' ⟨h, _⟩; cases h
     replace hQ2 := hid hQ2
     refine wp_mono (Q := Q2) ?_ ?_
     ·subst hA_
      have hRD_ := hid (fun w' (x_ : Ext w w') => And.intro (Ext.cell x_ R0.out) (Ext.cell x_ R1.out))
      refine wp_region_held_drew (S := fun w' => Ext w w') (by kernel_rfl) (HX.out).drew fun hHeld => ?_
      refine name_any (fun W0 hW => ?_)
      have s0 : Ext wr W0 := by rw [hW]; exact (Ext.refl _).drew
      clear hW hHeld
      refine tkA (i := 0) (v := ?_) rfl (fun c a w h => hpan c _ _ _ _ h) (Or.inl ⟨by rfl, ?yl⟩) (((HX.out).trans s0)) ?_
      case yl => (intro w hSw; have k_ := hRD_.out w hSw; go_simp); with_reducible rfl
      try simp only [sxA, sxB, sxC, Act.put, sxD, sxE, sxF]
      refine tkA (i := 1) (v := ?_) rfl (fun c a w h => hpan c _ _ _ _ h) (Or.inl ⟨by rfl, ?yl⟩) (((HX.out).trans s0)) ?_
      case yl => (intro w hSw; have k_ := hRD_.out w hSw; go_simp); with_reducible rfl
      try simp only [sxA, sxB, sxC, Act.put, sxD, sxE, sxF]
      refine tkA (i := 2) (v := ?_) rfl (fun c a w h => hpan c _ _ _ _ h) (Or.inl ⟨by rfl, ?yl⟩) (((HX.out).trans s0)) ?_
      case yl => (intro w hSw; have k_ := hRD_.out w hSw; go_simp); with_reducible rfl
      try simp only [sxA, sxB, sxC, Act.put, sxD, sxE, sxF]
      refine tkA (i := 3) (v := ?_) rfl (fun c a w h => hpan c _ _ _ _ h) (Or.inl ⟨by rfl, ?yl⟩) (((HX.out).trans s0)) ?_
      case yl => (intro w hSw; have k_ := hRD_.out w hSw; go_simp); with_reducible rfl
      try simp only [sxA, sxB, sxC, Act.put, sxD, sxE, sxF]
      refine tkA (i := 4) (v := ?_) rfl (fun c a w h => hpan c _ _ _ _ h) (Or.inl ⟨by rfl, ?yl⟩) (((HX.out).trans s0)) ?_
      case yl => (intro w hSw; have k_ := hRD_.out w hSw; go_simp); with_reducible rfl
      try simp only [sxA, sxB, sxC, Act.put, sxD, sxE, sxF]
      refine tkA (i := 5) (v := ?_) rfl (fun c a w h => hpan c _ _ _ _ h) (Or.inl ⟨by rfl, ?yl⟩) (((HX.out).trans s0)) ?_
      case yl => (intro w hSw; have k_ := hRD_.out w hSw; go_simp); with_reducible rfl
      try simp only [sxA, sxB, sxC, Act.put, sxD, sxE, sxF]
      refine tkA (i := 7) (v := ?_) rfl (fun c a w h => hpan c _ _ _ _ h) (Or.inl ⟨by rfl, ?yl⟩) (((HX.out).trans s0)) ?_
      case yl => (intro w hSw; have k_ := hRD_.out w hSw; go_simp); with_reducible rfl
      try simp only [sxA, sxB, sxC, Act.put, sxD, sxE, sxF]
      refine tkA (i := 8) (v := ?_) rfl (fun c a w h => hpan c _ _ _ _ h) (Or.inl ⟨by rfl, ?yl⟩) (((HX.out).trans s0)) ?_
      case yl => (intro w hSw; have k_ := hRD_.out w hSw; go_simp); with_reducible rfl
      try simp only [sxA, sxB, sxC, Act.put, sxD, sxE, sxF]
      refine tkA (i := 9) (v := ?_) rfl (fun c a w h => hpan c _ _ _ _ h) (Or.inl ⟨by rfl, ?yl⟩) (((HX.out).trans s0)) ?_
      case yl => (intro w hSw; have k_ := hRD_.out w hSw; go_simp); with_reducible rfl
      try simp only [sxA, sxB, sxC, Act.put, sxD, sxE, sxF]
      refine tkA (i := 10) (v := ?_) rfl (fun c a w h => hpan c _ _ _ _ h) (Or.inl ⟨by rfl, ?yl⟩) (((HX.out).trans s0)) ?_
      case yl => (intro w hSw; have k_ := hRD_.out w hSw; go_simp); with_reducible rfl
      try simp only [sxA, sxB, sxC, Act.put, sxD, sxE, sxF]
      refine tkA (i := 11) (v := ?_) rfl (fun c a w h => hpan c _ _ _ _ h) (Or.inl ⟨by rfl, ?yl⟩) (((HX.out).trans s0)) ?_
      case yl => (intro w hSw; have k_ := hRD_.out w hSw; go_simp); with_reducible rfl
      try simp only [sxA, sxB, sxC, Act.put, sxD, sxE, sxF]
      refine wpAnyH_ready (rs := [6]) (by kernel_rfl) (by simp) ?_
      refine AllReadyH.cons (o := _) rfl (fun K hK => ?_) AllReadyH.nil
      go_simp
      refine (kB.out _ (HX.out.trans s0)).mono ?_; rintro e W1 ⟨rfl, e1⟩
      have s1 := s0.trans e1
      refine hK.out _ _ ((HX.out).trans s1) (fun _ => ?_)
      clear hK K
      (try simp only [sxA, sxB, sxC, Act.put, sxD, sxE, sxF])
      refine wpAnyH_ready (rs := [12]) (by kernel_rfl) (by simp) ?_
      refine AllReadyH.cons (o := _) rfl (fun K hK => ?_) AllReadyH.nil
      go_simp
      refine (kA.out _ (HX.out.trans s1)).mono ?_; rintro e W2 ⟨rfl, e2⟩
      have s2 := s1.trans e2
      refine hK.out _ _ ((HX.out).trans s2) (fun _ => ?_)
      clear hK K
      (try simp only [sxA, sxB, sxC, Act.put, sxD, sxE, sxF])
      refine tkA (i := 13) (v := .int .i64 (-x0)) rfl (fun c a w h => hpan c _ _ _ _ h) (Or.inl ⟨by rfl, ?yl⟩) (((HX.out).trans s2)) ?_
      case yl => (intro w hSw; have k_ := hRD_.out w hSw; go_simp; first | done | with_reducible rfl | (simp only [t1]; done) | (simp [t1]; done))
      try simp only [sxA, sxB, sxC, Act.put, sxD, sxE, sxF]
      refine wpAnyH_ready (rs := [14]) (by kernel_rfl) (by simp) ?_
      refine AllReadyH.cons (o := _) rfl (fun K hK => ?_) AllReadyH.nil
      go_simp
      refine hK.out _ _ (Ext.alloc ((HX.out).trans s2) _) (fun _ => ?_)
      clear hK K
      (try simp only [sxA, sxB, sxC, Act.put, sxD, sxE, sxF])
      refine name_any (fun W3 hW => ?_)
      have e3 : Ext W2 W3 := by rw [hW]; exact Ext.alloc (Ext.refl _) _
      have s3 := s2.trans e3
      have b14_0 := hid (show W3.cell? ⟨W2.heap.size, 0, none⟩ = some (.int .i64 x1) by rw [hW]; simp [go_sem])
      have b14_1 := hid (show W3.cell? ⟨W2.heap.size, 1, none⟩ = some (.int .i64 (-x0)) by rw [hW]; simp [go_sem])
      have d14_0 := hid (show W3.frozen? ⟨W2.heap.size, 0, none⟩ = false by rw [hW]; simp [go_sem])
      have d14_1 := hid (show W3.frozen? ⟨W2.heap.size, 1, none⟩ = false by rw [hW]; simp [go_sem])
      have l14 := hid (show W2.heap.size < W3.heap.size by rw [hW]; simp [go_sem])
      clear hW
      refine wpAnyH_ready (rs := [15]) (by kernel_rfl) (by simp) ?_
      refine AllReadyH.cons (o := _) rfl (fun K hK => ?_) AllReadyH.nil
      go_simp
      refine hK.out _ _ (Ext.alloc ((HX.out).trans s3) _) (fun _ => ?_)
      clear hK K
      (try simp only [sxA, sxB, sxC, Act.put, sxD, sxE, sxF])
      refine name_any (fun W4 hW => ?_)
      have e4 : Ext W3 W4 := by rw [hW]; exact Ext.alloc (Ext.refl _) _
      have s4 := s3.trans e4
      have b15_0 := hid (show W4.cell? ⟨W3.heap.size, 0, none⟩ = some (.slice (some ⟨W2.heap.size, 0, none⟩) 2 2) by rw [hW]; simp [go_sem])
      have d15_0 := hid (show W4.frozen? ⟨W3.heap.size, 0, none⟩ = false by rw [hW]; simp [go_sem])
      have l15 := hid (show W3.heap.size < W4.heap.size by rw [hW]; simp [go_sem])
      clear hW
      refine wpAnyH_ready (rs := [16]) (by kernel_rfl) (by simp) ?_
      refine AllReadyH.cons (o := _) rfl (fun K hK => ?_) AllReadyH.nil
      have hWW := hG.out.ext s4
      refine appG_wp _ _ _ rfl 25 1 24 Try.underlying97 elemSl (by decide) w.heap.size (fun j _ => .slice (some ⟨B j, 0, none⟩) 2 (C j)) (q - 1) _ rfl W3.heap.size 0 1 1 (fun _ _ => .slice (some ⟨W2.heap.size, 0, none⟩) 2 2) rfl hWW.o (el1x b15_0.out) (by decide) (fun _ _ _ _ => rfl) (by omega) (by decide) ((HX.out.trans s4).size) (fun j _ => if j < q - 1 then .slice (some ⟨B j, 0, none⟩) 2 (C j) else .slice (some ⟨W2.heap.size, 0, none⟩) 2 2) (fun i r hi _ => if_pos hi) (fun i r hi _ => if_neg (by omega)) ?_
      intro b9 cp9 W5 ho9 hg9 at9 hb9 hE9
      have s5 : Ext w W5 := hE9 w (HX.out.trans s4) (Nat.le_refl _)
      have gr9_ := (Gro.snoc hWW hg9 at9 hE9 ho9 (grq b14_0.out b14_1.out d14_0.out d14_1.out yq.out ((Ext.refl W3).trans e4)) (Nat.le_trans hzw (s2).size) (Nat.lt_of_lt_of_le l14.out (((Ext.refl W3).trans e4)).size) (fun e => by have h1 := (hG.out.o.block _ e).2; have h2 := (s2).size; omega) (fun j hj e => by have h1 := (hG.out.lo j hj).2.1; have h2 := (s2).size; omega))
      rw [show q - 1 + 1 = q by omega] at gr9_ ⊢
      have gr9 := hid gr9_
      clear hWW ho9 hg9 at9 hE9 gr9_
      refine hK.out _ _ s5 (fun _ => ?_)
      clear hK K
      (try simp only [sxA, sxB, sxC, Act.put, sxD, sxE, sxF])
      refine tkA (i := 17) (v := ?_) rfl (fun c a w h => hpan c _ _ _ _ h) (Or.inl ⟨by rfl, ?yl⟩) (s5) ?_
      case yl => (intro w hSw; have k_ := hRD_.out w hSw; go_simp); with_reducible rfl
      try simp only [sxA, sxB, sxC, Act.put, sxD, sxE, sxF]
      refine wpAnyH_done (by kernel_rfl) ?_ _
      try simp only [sxA, sxB, sxC, Act.put, sxD, sxE, sxF]
      rw [hQ2.out]
      refine ⟨rfl, b9, cp9, W2.heap.size, ?u1_0_1, ?u1_1_1, ?u1_2_1, ?u1_3_1, ?u1_4_1, ?u1_5_1, ?u1_6_1, ?u1_7_1, ?u1_8_1, ?u1_9_1, ?u1_10_1, ?u1_11_1, ?u1_12_1, ?eq1_1, s5, gr9.out⟩
      case eq1_1 => ((try simp only [sxA, sxB, sxC, Act.put, sxD, sxE, sxF]); first | done | with_reducible rfl | rfl)
     rw [hQ2.out]
     rintro e a' wa ⟨rfl, b9, cp9, bq9, v0_, v1_, v2_, v3_, v4_, v5_, v7_, v8_, v9_, v10_, v11_, v14_, v15_, rfl, x, gr9⟩
     clear hQ2 hpan; clear Q2
     subst hA_
     simp only [sxA, sxB, sxC, Act.put, sxD, sxE, sxF]
     go_wp2_with fail
     go_roundw
     case rel => exact ⟨q + 1, by omega, by omega, by go_num, _, _, by rw [show q + 1 - 1 = q by omega]; exact gr9⟩
     case measure => simp [intOf]; omega
    ·have hq3' : q = 3 := by omega
     subst hq3'
     go_wp2_with fail
     go_meet
     case rel => exact ⟨B, C, hid (hG.out.cnd (by omega))⟩
  ·have hn1 : n = 1 := hcn.out
   subst hn1
   have y0 : Hid (∀ j k, Y j k = O (T ((k + 1) % 3)) 1 * O (T ((k + 2) % 3)) 2 - O (T ((k + 1) % 3)) 2 * O (T ((k + 2) % 3)) 1) := hid fun j k => by rw [hYd.out]; rfl
   have r0 := HC.out 0 (by omega)
   have r1 := HC.out 1 (by omega)
   have r2 := HC.out 2 (by omega)
   rw [Nat.add_zero] at r0
   have y0 : Hid (∀ j, Y j 0 = O (T 1) 1 * O (T 2) 2 - O (T 1) 2 * O (T 2) 1 ∧ Y j 1 = O (T 2) 1 * O (T 0) 2 - O (T 2) 2 * O (T 0) 1 ∧ Y j 2 = O (T 0) 1 * O (T 1) 2 - O (T 0) 2 * O (T 1) 1) := hid fun j => ⟨y0.out j 0, y0.out j 1, y0.out j 2⟩
   have c01 := hid (fun W hx => cO.out 0 1 W (by omega) (.inl rfl) hx)
   have c02 := hid (fun W hx => cO.out 0 2 W (by omega) (.inr rfl) hx)
   have c11 := hid (fun W hx => cO.out 1 1 W (by omega) (.inl rfl) hx)
   have c12 := hid (fun W hx => cO.out 1 2 W (by omega) (.inr rfl) hx)
   have c21 := hid (fun W hx => cO.out 2 1 W (by omega) (.inl rfl) hx)
   have c22 := hid (fun W hx => cO.out 2 2 W (by omega) (.inr rfl) hx)
   obtain ⟨i0, hi0⟩ : ∃ z, T 0 = z := ⟨_, rfl⟩
   obtain ⟨i1, hi1⟩ : ∃ z, T 1 = z := ⟨_, rfl⟩
   obtain ⟨i2, hi2⟩ : ∃ z, T 2 = z := ⟨_, rfl⟩
   rw [hi0] at y0 r0 c01 c02
   rw [hi1] at y0 r1 c11 c12
   rw [hi2] at y0 r2 c21 c22
   have R0 := hid r0
   have R1 := hid r1
   have R2 := hid r2
   clear hi0 hi1 hi2 hYd cO r0 r1 r2
   go_wp2_with fail
   have e3 : ((3 : Nat) : Int) = 3 := rfl
   simp only [e3]
   clear e3
   go_loopw [7, 19] (fun x i wr => ∃ q : Nat, q ≤ 3 ∧ i = .int .i64 q ∧ OwnI wr w.heap.size 2 x (mkL q (Y 0)) ∧ Ext w wr) (fun _ i _ => (3 - intOf i).toNat)
   case atStart => exact ⟨0, by omega, rfl, OwnI.nil _ _ _, Ext.refl _⟩
   case round =>
    obtain ⟨q, hq, rfl, ho, hx⟩ := hrel
    by_cases hlt : q < 3
    ·have hq9 : q = 0 ∨ q = 1 ∨ q = 2 := by omega
     have r0 := hx.cell R0.out
     have r1 := hx.cell R1.out
     have r2 := hx.cell R2.out
     rcases hq9 with rfl | rfl | rfl
     ·have hv := hid (show Y 0 0 = O i1 1 * O i2 2 - O i1 2 * O i2 1 from (y0.out 0).1)
      have hst := hid (mkL_snoc 0 (Y 0))
      rw [hv.out] at hst
      have q1 := mul_bd3 (hob.out i1 1) (hob.out i2 2)
      have q2 := mul_bd3 (hob.out i1 2) (hob.out i2 1)
      have k1 := c11
      have k2 := c21
      have k3 := c12
      have k4 := c22
      obtain ⟨z1, e1⟩ : ∃ z, O i1 1 = z := ⟨_, rfl⟩
      obtain ⟨z2, e2⟩ : ∃ z, O i2 2 = z := ⟨_, rfl⟩
      obtain ⟨z3, e3⟩ : ∃ z, O i1 2 = z := ⟨_, rfl⟩
      obtain ⟨z4, e4⟩ : ∃ z, O i2 1 = z := ⟨_, rfl⟩
      rw [e1] at q1 k1 hst
      rw [e2] at q1 k4 hst
      rw [e3] at q2 k3 hst
      rw [e4] at q2 k2 hst
      clear hv e1 e2 e3 e4
      have t1 := Go.IntWalk.i64_in (z1 * z2) (by omega)
      have t2 := Go.IntWalk.i64_in (z3 * z4) (by omega)
      have t3 := Go.IntWalk.i64_in (z1 * z2 - z3 * z4) (by omega)
      replace ho := hid ho
      have hx2 := hid hx
      clear hx
      have hx := hx2.out
      go_wp2_with fail
      go_quiet (fail)
      go_wp2_with fail
      refine (k1.out _ (by have := hx2.out; exact exE)).mono ?_; rintro e v1 ⟨rfl, hE1⟩
      go_wp2_with fail
      refine (k4.out _ (by have := hx2.out; exact exE)).mono ?_; rintro e v2 ⟨rfl, hE2⟩
      go_wp2_with fail
      refine (k3.out _ (by have := hx2.out; exact exE)).mono ?_; rintro e v3 ⟨rfl, hE3⟩
      go_wp2_with fail
      refine (k2.out _ (by have := hx2.out; exact exE)).mono ?_; rintro e v4 ⟨rfl, hE4⟩
      have x4 := hid (show Ext wr v4 from exE)
      replace ho := hid (ho.out.ext x4.out)
      have hx4 := hid (hx2.out.trans x4.out)
      have hz4 := hx4.out.size
      clear hE1 hE2 hE3 hE4 k1 k2 k3 k4 hx hx2
      go_wp2_with (at_builtin; refine app_int rfl _ _ _ rfl 2 Try.underlying25 elemI64 w.heap.size (mkL 0 (Y 0)) (z1 * z2 - z3 * z4) _ rfl _ rfl (ho.out.ext exE) ?c1 ?c2 ?c3 ?_; (case c1 => simp [go_sem]); (case c2 => rw [mkL_len]; omega); (case c3 => simp; omega); intro b9 cp9 w9 own9 ext9 hb9 g9)
      have own9 := hid own9
      have hE9 := hid (ext9 w (by have := hx4.out; exact exE) (Nat.le_refl _))
      clear ext9
      go_roundw
      case rel => exact ⟨0 + 1, by omega, by go_num, by rw [hst.out]; have h := own9.out; rw [List.length_append, mkL_len] at h; exact h, hE9.out⟩
      case measure => simp [intOf]
     ·have hv := hid (show Y 0 1 = O i2 1 * O i0 2 - O i2 2 * O i0 1 from (y0.out 0).2.1)
      have hst := hid (mkL_snoc 1 (Y 0))
      rw [hv.out] at hst
      have q1 := mul_bd3 (hob.out i2 1) (hob.out i0 2)
      have q2 := mul_bd3 (hob.out i2 2) (hob.out i0 1)
      have k1 := c21
      have k2 := c01
      have k3 := c22
      have k4 := c02
      obtain ⟨z1, e1⟩ : ∃ z, O i2 1 = z := ⟨_, rfl⟩
      obtain ⟨z2, e2⟩ : ∃ z, O i0 2 = z := ⟨_, rfl⟩
      obtain ⟨z3, e3⟩ : ∃ z, O i2 2 = z := ⟨_, rfl⟩
      obtain ⟨z4, e4⟩ : ∃ z, O i0 1 = z := ⟨_, rfl⟩
      rw [e1] at q1 k1 hst
      rw [e2] at q1 k4 hst
      rw [e3] at q2 k3 hst
      rw [e4] at q2 k2 hst
      clear hv e1 e2 e3 e4
      have t1 := Go.IntWalk.i64_in (z1 * z2) (by omega)
      have t2 := Go.IntWalk.i64_in (z3 * z4) (by omega)
      have t3 := Go.IntWalk.i64_in (z1 * z2 - z3 * z4) (by omega)
      replace ho := hid ho
      have hx2 := hid hx
      clear hx
      have hx := hx2.out
      go_wp2_with fail
      go_quiet (fail)
      go_wp2_with fail
      refine (k1.out _ (by have := hx2.out; exact exE)).mono ?_; rintro e v1 ⟨rfl, hE1⟩
      go_wp2_with fail
      refine (k4.out _ (by have := hx2.out; exact exE)).mono ?_; rintro e v2 ⟨rfl, hE2⟩
      go_wp2_with fail
      refine (k3.out _ (by have := hx2.out; exact exE)).mono ?_; rintro e v3 ⟨rfl, hE3⟩
      go_wp2_with fail
      refine (k2.out _ (by have := hx2.out; exact exE)).mono ?_; rintro e v4 ⟨rfl, hE4⟩
      have x4 := hid (show Ext wr v4 from exE)
      replace ho := hid (ho.out.ext x4.out)
      have hx4 := hid (hx2.out.trans x4.out)
      have hz4 := hx4.out.size
      clear hE1 hE2 hE3 hE4 k1 k2 k3 k4 hx hx2
      go_wp2_with (at_builtin; refine app_int rfl _ _ _ rfl 2 Try.underlying25 elemI64 w.heap.size (mkL 1 (Y 0)) (z1 * z2 - z3 * z4) _ rfl _ rfl (ho.out.ext exE) ?c1 ?c2 ?c3 ?_; (case c1 => simp [go_sem]); (case c2 => rw [mkL_len]; omega); (case c3 => simp; omega); intro b9 cp9 w9 own9 ext9 hb9 g9)
      have own9 := hid own9
      have hE9 := hid (ext9 w (by have := hx4.out; exact exE) (Nat.le_refl _))
      clear ext9
      go_roundw
      case rel => exact ⟨1 + 1, by omega, by go_num, by rw [hst.out]; have h := own9.out; rw [List.length_append, mkL_len] at h; exact h, hE9.out⟩
      case measure => simp [intOf]
     ·have hv := hid (show Y 0 2 = O i0 1 * O i1 2 - O i0 2 * O i1 1 from (y0.out 0).2.2)
      have hst := hid (mkL_snoc 2 (Y 0))
      rw [hv.out] at hst
      have q1 := mul_bd3 (hob.out i0 1) (hob.out i1 2)
      have q2 := mul_bd3 (hob.out i0 2) (hob.out i1 1)
      have k1 := c01
      have k2 := c11
      have k3 := c02
      have k4 := c12
      obtain ⟨z1, e1⟩ : ∃ z, O i0 1 = z := ⟨_, rfl⟩
      obtain ⟨z2, e2⟩ : ∃ z, O i1 2 = z := ⟨_, rfl⟩
      obtain ⟨z3, e3⟩ : ∃ z, O i0 2 = z := ⟨_, rfl⟩
      obtain ⟨z4, e4⟩ : ∃ z, O i1 1 = z := ⟨_, rfl⟩
      rw [e1] at q1 k1 hst
      rw [e2] at q1 k4 hst
      rw [e3] at q2 k3 hst
      rw [e4] at q2 k2 hst
      clear hv e1 e2 e3 e4
      have t1 := Go.IntWalk.i64_in (z1 * z2) (by omega)
      have t2 := Go.IntWalk.i64_in (z3 * z4) (by omega)
      have t3 := Go.IntWalk.i64_in (z1 * z2 - z3 * z4) (by omega)
      replace ho := hid ho
      have hx2 := hid hx
      clear hx
      have hx := hx2.out
      go_wp2_with fail
      go_quiet (fail)
      go_wp2_with fail
      refine (k1.out _ (by have := hx2.out; exact exE)).mono ?_; rintro e v1 ⟨rfl, hE1⟩
      go_wp2_with fail
      refine (k4.out _ (by have := hx2.out; exact exE)).mono ?_; rintro e v2 ⟨rfl, hE2⟩
      go_wp2_with fail
      refine (k3.out _ (by have := hx2.out; exact exE)).mono ?_; rintro e v3 ⟨rfl, hE3⟩
      go_wp2_with fail
      refine (k2.out _ (by have := hx2.out; exact exE)).mono ?_; rintro e v4 ⟨rfl, hE4⟩
      have x4 := hid (show Ext wr v4 from exE)
      replace ho := hid (ho.out.ext x4.out)
      have hx4 := hid (hx2.out.trans x4.out)
      have hz4 := hx4.out.size
      clear hE1 hE2 hE3 hE4 k1 k2 k3 k4 hx hx2
      go_wp2_with (at_builtin; refine app_int rfl _ _ _ rfl 2 Try.underlying25 elemI64 w.heap.size (mkL 2 (Y 0)) (z1 * z2 - z3 * z4) _ rfl _ rfl (ho.out.ext exE) ?c1 ?c2 ?c3 ?_; (case c1 => simp [go_sem]); (case c2 => rw [mkL_len]; omega); (case c3 => simp; omega); intro b9 cp9 w9 own9 ext9 hb9 g9)
      have own9 := hid own9
      have hE9 := hid (ext9 w (by have := hx4.out; exact exE) (Nat.le_refl _))
      clear ext9
      go_roundw
      case rel => exact ⟨2 + 1, by omega, by go_num, by rw [hst.out]; have h := own9.out; rw [List.length_append, mkL_len] at h; exact h, hE9.out⟩
      case measure => simp [intOf]
    ·have hq3 : q = 3 := by omega
     subst hq3
     obtain ⟨g, cx, rfl, hg0, hg1, hg2, hg3⟩ := ho.full (by rw [mkL_len]; omega)
     have hgc := hid hg3
     rw [mkL_len] at hg2
     have hl3 := mkL_len 3 (Y 0)
     rw [hl3]
     replace ho := hid ho
     clear hg3 hlt hq hl3
     go_wp2_with fail
     go_meet
     case rel =>
      refine ⟨fun _ => g, fun _ => cx, hid ⟨⟨wr.heap.size, 1, by simp, hx.size, by simp, fun j hj => ?_, fun j hj => by omega⟩, fun j k hj hk => ?_, fun i j hi hj hne => by omega, fun j hj => ⟨hg0, by simp; omega, hg2⟩, exE⟩⟩
      ·obtain rfl : j = 0 := by omega
       simp [go_sem]
      ·obtain rfl : j = 0 := by omega
       obtain ⟨z1, z2⟩ := hgc.out k (by rw [mkL_len]; exact hk)
       rw [mkL_nth _ hk] at z1
       exact ⟨Ext.cell (w := wr) exE z1, (Ext.frozen (w := wr) exE hg1).trans z2⟩
 case rest =>
  obtain ⟨B, C, hCn⟩ := hcut
  rename World => w1
  obtain ⟨g, cpg, rfl, hg0, hg1, hhd, hBg⟩ := hCn.out.h
  obtain ⟨H, hH⟩ : ∃ H : Nat → Value, H = fun j => .slice (some ⟨B j, 0, none⟩) m (C j) := ⟨_, rfl⟩
  have hHe : Hid (∀ j, H j = .slice (some ⟨B j, 0, none⟩) m (C j)) := hid fun j => by rw [hH]
  have hBl : Hid (∀ j, j < n → B j < w1.heap.size) := hid fun j hj => (hCn.out.lo j hj).2.1
  have hx1 := hid hCn.out.x
  have hC0 : Hid (Cnd w w1 (.slice (some ⟨g, 0, none⟩) n cpg) n m B C (doneY m Y 0)) := hid (hCn.out.congr fun j k _ _ => by unfold doneY; rw [if_neg (by omega)])
  have hks := hid (fun q => kptL_step m Y q)
  have hkl := hid (fun q => kptL_le m Y q)
  have hkt := hid (fun q => kptL_lt m Y q)
  have hk0 : Hid (kptL m Y 0 = []) := hid rfl
  obtain ⟨KL, hKL⟩ : ∃ KL, kptL m Y = KL := ⟨_, rfl⟩
  rw [hKL] at hks hkl hkt hk0 hres
  clear hhd hBg hH hCn hYd hcn hob cO HC hKL
  go_wp2_with fail
  go_step3
  go_wp2_with fail
  go_loopw [11, 84] (fun o i wr => ∃ q : Nat, q ≤ n ∧ i = .int .i64 q ∧ Hid (OwnG wr w1.heap.size 25 1 o (fun r _ => H ((KL q).getD r 0)) (KL q).length) ∧ Hid (Cnd w wr (.slice (some ⟨g, 0, none⟩) n cpg) n m B C (doneY m Y q)) ∧ Hid (w1.heap.size ≤ wr.heap.size)) (fun _ i _ => (n - intOf i).toNat)
  case atStart => exact ⟨0, by omega, rfl, hid (by rw [hk0.out]; exact OwnG.nil _ _ _ _ _), hC0, hid (Nat.le_refl _)⟩
  case round =>
   obtain ⟨q, hq, rfl, ho, hC, hzz⟩ := hrel
   by_cases hlt : q < n
   ·obtain ⟨g', cp', e', _, hg1', hhd, _⟩ := hC.out.h
    cases e'
    have c0 := hhd q hlt
    have hqI : (q : Int) < (n : Int) := by omega
    have cM := hid (fun W hI => max_mk (B q) m h1 (by omega) (Y q) (fun i => ⟨by have := hY.out q i; omega, by have := hY.out q i; omega⟩) (C q) W hI)
    have hZb := hid (nrmY_bd (m := m) (fun k => hY.out q k))
    have hstp := hid (fun j k => doneY_step m Y q j k)
    have hdat := hid (fun k => doneY_at m Y q k)
    have hkst := hid (hks.out q)
    have hnrm : Hid (nrmY m (Y q) = if mxTo (Y q) m ≤ 0 then (fun k => - Y q k) else Y q) := hid rfl
    have hkeep : Hid (keepY m (Y q) = !(decide (mnTo (nrmY m (Y q)) m < 0) || decide (mxTo (nrmY m (Y q)) m = 0))) := hid rfl
    have cN := hid (fun W hI => min_mk (B q) m h1 (by omega) (nrmY m (Y q)) (fun i => ⟨by have := hZb.out i; omega, by have := hZb.out i; omega⟩) (C q) W hI)
    have cX := hid (fun W hI => max_mk (B q) m h1 (by omega) (nrmY m (Y q)) (fun i => ⟨by have := hZb.out i; omega, by have := hZb.out i; omega⟩) (C q) W hI)
    have hyb := hid (hY.out q)
    obtain ⟨M1, hM1⟩ : ∃ z, mxTo (Y q) m = z := ⟨_, rfl⟩
    obtain ⟨Zf, hZf⟩ : ∃ z, nrmY m (Y q) = z := ⟨_, rfl⟩
    obtain ⟨K1, hK1⟩ : ∃ z, KL (q + 1) = z := ⟨_, rfl⟩
    have hkln := hid (hkl.out q)
    obtain ⟨K0, hK0⟩ : ∃ z, KL q = z := ⟨_, rfl⟩
    obtain ⟨kp, hkp⟩ : ∃ z, keepY m (Y q) = z := ⟨_, rfl⟩
    rw [hM1] at cM hnrm
    rw [hZf] at hnrm hstp hkeep cN cX hZb
    rw [hK1, hkp, hK0] at hkst
    rw [hkp] at hkeep
    rw [hK0] at ho hkln
    obtain ⟨Zn, hZn⟩ : ∃ z, mnTo Zf m = z := ⟨_, rfl⟩
    obtain ⟨Zx, hZx⟩ : ∃ z, mxTo Zf m = z := ⟨_, rfl⟩
    rw [hZn] at cN hkeep
    rw [hZx] at cX hkeep
    replace hK1 := hid hK1
    clear hhd hM1 hZf hK0 hkp hZn hZx
    have hI0 := hid (hC.out.ints hlt (f := Y q) (fun k _ => hdat.out k))
    go_wp2_with fail
    refine (cM.out _ hI0.out).mono ?_; rintro e w' ⟨rfl, rfl⟩
    go_upto_if 90 with (fail)
    go_cut [] (fun wx => Hid (Cnd w wx (.slice (some ⟨g, 0, none⟩) n cpg) n m B C (doneY m Y (q + 1))) ∧ Hid (OwnG wx w1.heap.size 25 1 u11 (fun r _ => H (K0.getD r 0)) K0.length) ∧ Hid (w1.heap.size ≤ wx.heap.size))
    case first =>
     by_cases hM : M1 ≤ 0
     ·rw [if_pos hM] at hnrm
      have ngz := hid (ngF_zero (Y q))
      have ngs := hid (fun p => ngF_step (Y q) p)
      have nga := hid (fun p => ngF_at (Y q) p)
      have nge : Hid (∀ k, k < m → ngF (Y q) m k = Zf k) := hid fun k hk => by rw [hnrm.out]; unfold ngF; rw [if_pos hk]
      obtain ⟨NG, hNG⟩ : ∃ NG, ngF (Y q) = NG := ⟨_, rfl⟩
      rw [hNG] at ngz ngs nga nge
      have hC1 : Hid (Cnd w wr (.slice (some ⟨g, 0, none⟩) n cpg) n m B C (fun j k => if j = q then NG 0 k else doneY m Y q j k)) := hid (hC.out.congr fun j k _ _ => by
       try dsimp only
       by_cases e : j = q
       ·subst e; rw [if_pos rfl, ngz.out, hdat.out]
       ·rw [if_neg e])
      clear hNG
      go_wp2_with fail
      go_loopw [93] (fun i wv => ∃ p : Nat, p ≤ m ∧ i = .int .i64 p ∧ Hid (Cnd w wv (.slice (some ⟨g, 0, none⟩) n cpg) n m B C (fun j k => if j = q then NG p k else doneY m Y q j k)) ∧ Hid (OwnG wv w1.heap.size 25 1 u11 (fun r _ => H (K0.getD r 0)) K0.length) ∧ Hid (w1.heap.size ≤ wv.heap.size)) (fun i _ => (m - intOf i).toNat)
      case atStart => exact ⟨0, by omega, rfl, hC1, ho, hzz⟩
      case round =>
       obtain ⟨p, hp, rfl, hCp, hop, hzp⟩ := hrel
       by_cases hpm : p < m
       ·obtain ⟨q0, q1⟩ := hCp.out.r q p hlt hpm
        rw [if_pos rfl, nga.out] at q0
        have hb := hyb.out p
        have hl9 := (hCp.out.lo q hlt).2.1
        have hns := hid (ngs.out p)
        obtain ⟨z, hz⟩ : ∃ z, Y q p = z := ⟨_, rfl⟩
        rw [hz] at q0 hb hns
        have t1 := Go.IntWalk.i64_in (-z) (by omega)
        have t2 := Go.IntWalk.i64_in ((p : Int) + 1) (by omega)
        have hpI : (p : Int) < (m : Int) := by omega
        clear hz hb
        go_wp2_with fail
        go_roundw
        case rel => exact ⟨p + 1, by omega, by go_num, hid ((hCp.out.set hlt hpm (-z)).congr fun j k hj hk => by
         try dsimp only
         rw [← hns.out]
         by_cases e : j = q
         ·subst e; rw [if_pos rfl]
          by_cases e2 : k = p
          ·subst e2; simp
          ·simp [e2]
         ·simp [e]), hid (hop.out.put (fun e => by have h8 := (hop.out.block _ e).1; have h9 := hBl.out q hlt; dsimp only at h8; omega) _), hid (by have := hzp.out; simpa using this)⟩
        case measure => simp [intOf]; omega
       ·have hpe : p = m := by omega
        have hmm : ¬ (m : Int) < (m : Int) := by omega
        rw [hpe] at hCp
        rw [hpe]
        have hCe : Hid (Cnd w wr (.slice (some ⟨g, 0, none⟩) n cpg) n m B C (doneY m Y (q + 1))) := hid (hCp.out.congr fun j k _ hk => by
         try dsimp only
         rw [hstp.out]
         by_cases e : j = q
         ·rw [if_pos e, if_pos e]; exact nge.out k hk
         ·rw [if_neg e, if_neg e])
        clear hpe hpm hp hCp
        go_wp2_with fail
        go_meet
        case rel => exact ⟨hCe, hop, hzp⟩
     ·rw [if_neg hM] at hnrm
      have hCe : Hid (Cnd w wr (.slice (some ⟨g, 0, none⟩) n cpg) n m B C (doneY m Y (q + 1))) := hid (hC.out.congr fun j k _ hk => by
       rw [hstp.out]
       by_cases e : j = q
       ·rw [if_pos e, hnrm.out, e]; exact hdat.out k
       ·rw [if_neg e])
      go_wp2_with fail
      go_meet
      case rel => exact ⟨hCe, ho, hzz⟩
    case rest =>
     obtain ⟨hC2, ho2, hz2⟩ := hcut
     rename World => w2
     have hI2 := hid (hC2.out.ints hlt (f := Zf) (fun k _ => by rw [hstp.out, if_pos rfl]))
     have tq := Go.IntWalk.i64_in ((q : Int) + 1) (by omega)
     clear hI0 hC ho cM hdat hnrm hyb
     go_wp2_with fail
     refine (cN.out _ hI2.out).mono ?_; rintro e w' ⟨rfl, rfl⟩
     by_cases g1 : Zn < 0
     ·have hk9 : kp = false := by rw [hkeep.out, decide_eq_true g1]; rfl
      rw [hk9, if_neg (by decide)] at hkst
      clear hk9
      go_wp2_with fail
      go_roundw
      case rel => exact ⟨q + 1, by omega, by go_num, by rw [hK1.out, hkst.out]; exact ho2, hC2, hz2⟩
      case measure => simp [intOf]; omega
     ·go_wp2_with fail
      refine (cX.out _ hI2.out).mono ?_; rintro e w' ⟨rfl, rfl⟩
      by_cases g2 : Zx = 0
      ·have hk9 : kp = false := by rw [hkeep.out, decide_eq_true g2]; simp
       rw [hk9, if_neg (by decide)] at hkst
       have g3 : (Zx == 0) = true := by simpa using g2
       clear hk9
       go_wp2_with fail
       go_roundw
       case rel => exact ⟨q + 1, by omega, by go_num, by rw [hK1.out, hkst.out]; exact ho2, hC2, hz2⟩
       case measure => simp [intOf]; omega
      ·have hk9 : kp = true := by rw [hkeep.out, decide_eq_false (show ¬ Zn < 0 by omega), decide_eq_false g2]; rfl
       rw [hk9, if_pos rfl] at hkst
       have g3 : (Zx == 0) = false := by simpa using g2
       have hHq := hid (hHe.out q)
       have hK09 := hkln.out
       clear hk9
       go_wp2_with (at_builtin; refine wpList_plain rfl (fun K hK => ?_); refine appG_wp _ _ _ rfl 25 1 24 Try.underlying97 elemSl (by decide) w1.heap.size (fun r _ => H (K0.getD r 0)) K0.length _ rfl _ 0 1 1 (fun _ _ => H q) rfl (ho2.out.ext exE) (by rw [hHq.out]; exact el1 (by simp)) (by decide) (fun _ _ _ _ => by rw [hHq.out]; rfl) (by omega) (by decide) (by have := hz2.out; simp; omega) (fun r _ => H ((K0 ++ [q]).getD r 0)) (fun i r hi _ => by rw [getD_left hi]) (fun i r hi _ => by rw [show i = 0 by omega, Nat.add_zero, getD_last]) ?_; intro b9 cp9 w9 ho9 hg9 at9 hb9 hE9; refine hK _ _ ?_)
       have hC9 := hid (hC2.out.kept hg9 (show Ext w2 _ from exE) (fun x => hE9 w x hx1.out.size) (fun j hj e => by have h8 := (ho2.out.block _ e).1; have h9 := hBl.out j hj; omega) (fun e => by have h8 := (ho2.out.block _ e).1; omega))
       have ho9 := hid ho9
       have hz9 := hid (Nat.le_trans hz2.out (Nat.le_trans (show Ext w2 _ from exE).size hg9.size))
       clear hE9 hg9 at9
       go_roundw
       case rel => exact ⟨q + 1, by omega, by go_num, by rw [hK1.out, hkst.out, List.length_append]; exact ho9, hC9, hz9⟩
       case measure => simp [intOf]; omega
   ·have hqn : q = n := by omega
    have hnn : ¬ (n : Int) < (n : Int) := by omega
    rw [hqn] at ho hC
    rw [hqn]
    clear hqn hlt hq
    obtain ⟨aa, cc, rfl, hTb⟩ := tab_of (F := fun j => mkL m (nrmY m (Y j))) (lo := w.heap.size) ho.out hx1.out.size (fun j hj => ⟨hHe.out j, hC.out.ints (hkt.out n j hj) (fun k _ => by unfold doneY; rw [if_pos (hkt.out n j hj)]), mkL_len _ _, (hC.out.lo j (hkt.out n j hj)).1⟩)
    have hTb := hid hTb
    have hxx := hid hC.out.x
    rw [← hres.out] at hTb ⊢
    go_wp2_with fail
    go_ret
    exact ⟨aa, cc, rfl, hTb.out, hxx.out⟩
end Go.Proofs.Ytpnfhcnnodolbaa
