/- Texts of one proof, laid together: UC, UD, UE. -/
import Derived.Test.YtommhgcgaclflaaZB7
import Derived.Test.YtommhgcgaclflaaUB
import Derived.Test.YtommhgcgaclflaaZB23
import Derived.Test.YtommhgcgaclflaaBox
import Derived.Test.YtommhgcgaclflaaZB15
namespace Go.Proofs.Ytommhgcgaclflaa
set_option linter.unusedVariables false
set_option linter.unusedSimpArgs false
set_option linter.unusedSectionVars false
set_option linter.unnecessarySimpa false
open Go Go.RowKit Game
set_option maxRecDepth 100000

def vOf (t L : List (List Int)) (k : Nat) : Int × Int := if k = 0 then suP t (row L 0) else valBy t (L.take k)
theorem take_row {L : List (List Int)} {k : Nat} (h : k < L.length) : L.take (k + 1) = L.take k ++ [row L k] := by
 rw [row_lt h, List.take_succ_eq_append_getElem h]
theorem upd_zero (x : Int × Int) : upd (0, 0) x = x := by simp [upd]
theorem vOf_mem {t L : List (List Int)} (hp : ∀ q ∈ L, 0 < psum q) (h0 : 0 < L.length) (k : Nat) : ∃ p, p ∈ L ∧ vOf t L k = suP t p := by
 unfold vOf
 split
 ·exact ⟨row L 0, by rw [row_lt h0]; exact List.getElem_mem _, rfl⟩
 ·rcases valBy_spec (t := t) _ (L.take k) rfl (fun q hq => hp q (List.mem_of_mem_take hq)) with ⟨e, _⟩ | ⟨p, h1, h2, _⟩
  ·have : (L.take k).length = 0 := by rw [e]; rfl
   rw [List.length_take] at this; omega
  ·exact ⟨p, List.mem_of_mem_take h1, h2⟩
theorem vOf_step {t L : List (List Int)} (hp : ∀ q ∈ L, 0 < psum q) {k : Nat} (hk : k < L.length) :
 vOf t L (k + 1) = if (vOf t L k).1 * (suP t (row L k)).2 < (suP t (row L k)).1 * (vOf t L k).2 then suP t (row L k) else vOf t L k := by
 rcases Nat.eq_zero_or_pos k with rfl | h
 ·have e : vOf t L 1 = suP t (row L 0) := by
   unfold vOf
   rw [if_neg (by omega), take_row hk]
   show valBy t ([] ++ [row L 0]) = _
   rw [valBy_snoc]; exact upd_zero _
  rw [e, show vOf t L 0 = suP t (row L 0) from rfl, ite_self]
 ·obtain ⟨p, h1, h2⟩ := vOf_mem (t := t) hp (by omega : 0 < L.length) k
  have h3 := su_pos (t := t) (hp p h1)
  rw [← h2] at h3
  have e1 : vOf t L (k + 1) = upd (vOf t L k) (suP t (row L k)) := by
   unfold vOf
   rw [if_neg (by omega), if_neg (by omega), take_row hk, valBy_snoc]
  rw [e1]
  unfold upd
  by_cases g : (vOf t L k).1 * (suP t (row L k)).2 < (suP t (row L k)).1 * (vOf t L k).2
  ·rw [if_pos (.inr g), if_pos g]
  ·rw [if_neg (by omega), if_neg g]
theorem vOf_end {t L : List (List Int)} (h : 0 < L.length) : vOf t L L.length = valBy t L := by
 unfold vOf; rw [if_neg (by omega), List.take_length]

structure PlF (t L : List (List Int)) : Prop where
 pos : 0 < L.length
 lt : L.length < 300
 len : ∀ k, k < L.length → (row L k).length = t.length
 nn : ∀ k, k < L.length → ∀ i, 0 ≤ nth (row L k) i ∧ nth (row L k) i ≤ 100000000
 ps : ∀ q ∈ L, 0 < psum q
 bd : ∀ q ∈ L, -19200000000 ≤ sureN t q ∧ sureN t q ≤ 19200000000 ∧ 0 < sureD t q ∧ sureD t q ≤ 192000000
theorem plF {t : List (List Int)} (v : VldT t) : PlF t (plansOn t (chs t.length (wid t))) := by
 have hm : ∀ k, k < (plansOn t (chs t.length (wid t))).length → ∃ x, x ∈ chs t.length (wid t) ∧ goodB t x = true ∧ row (plansOn t (chs t.length (wid t))) k = planL t x := fun k hk => by
  obtain ⟨x, h1, h2, h3⟩ := mem_plansOn.1 (List.getElem_mem hk)
  exact ⟨x, h1, h2, by rw [row_lt hk]; exact h3⟩
 refine ⟨?_, Nat.lt_of_le_of_lt (plansOn_le _ _) (chs_len v.m4 v.n4), fun k hk => ?_, fun k hk i => ?_, fun q hq => ?_, fun q hq => ?_⟩
 ·obtain ⟨x, h1, h2, _⟩ := val_spec v
  exact List.length_pos_of_mem (mem_plansOn.2 ⟨x, h1, h2, rfl⟩)
 ·obtain ⟨x, _, _, e⟩ := hm k hk
  rw [e, planL_len]
 ·obtain ⟨x, h1, _, e⟩ := hm k hk
  have := planL_bd v h1 i
  rw [e]; omega
 ·obtain ⟨x, h1, h2, rfl⟩ := mem_plansOn.1 hq
  exact (planL_vld v h1 h2).ps
 ·obtain ⟨x, h1, h2, rfl⟩ := mem_plansOn.1 hq
  exact planL_su_bd v h1 h2
theorem row_mem {L : List (List Int)} {k : Nat} (hk : k < L.length) : row L k ∈ L := by rw [row_lt hk]; exact List.getElem_mem _

set_option maxHeartbeats 8000000 in
theorem valueOfR_any (t : List (List Int)) (v : VldT t) (a : Option Addr) (cap : Nat) (w : World) (hT : Tab w a t) :
 Calls Try.prog 74 #[(.agg #[.slice a t.length cap])] w fun e w' => e = .returned (.agg #[.int .i64 (val t).1, .int .i64 (val t).2]) ∧ Ext w w' := by
 have hT' := hid hT
 have hpl := hid (plansR_any t v a cap)
 have hf := plF v
 have hve : Hid (val t = valBy t (plansOn t (chs t.length (wid t)))) := hid rfl
 obtain ⟨L, hL⟩ : ∃ L, plansOn t (chs t.length (wid t)) = L := ⟨_, rfl⟩
 rw [hL] at hpl hf hve
 rw [← vOf_end hf.pos] at hve
 have hso : Hid (∀ k, k < L.length → ∀ aa cc W, Tab W a t → Ints W aa (row L k) → Calls Try.prog 65 #[(.agg #[.slice a t.length cap]), .slice aa t.length cc] W fun e w' => e = .returned (.agg #[.int .i64 (sureN t (row L k)), .int .i64 (sureD t (row L k))]) ∧ Ext W w') :=
  hid fun k hk aa cc W hW hI => by
   have h := sureOfR_any t v (row L k) (hf.nn k hk) (hf.ps _ (row_mem hk)) (hf.len k hk) a cap aa cc W hW hI
   rw [hf.len k hk] at h
   exact h
 have hlen := hid hf.len
 have hpos := hf.pos
 have hlt := hf.lt
 have hstep := hid (fun k (hk : k < L.length) => vOf_step (t := t) hf.ps hk)
 have hbdR : Hid (∀ k, k < L.length → -19200000000 ≤ (suP t (row L k)).1 ∧ (suP t (row L k)).1 ≤ 19200000000 ∧ 0 < (suP t (row L k)).2 ∧ (suP t (row L k)).2 ≤ 192000000) := hid fun k hk => hf.bd _ (row_mem hk)
 have hbdV : Hid (∀ k, -19200000000 ≤ (vOf t L k).1 ∧ (vOf t L k).1 ≤ 19200000000 ∧ 0 < (vOf t L k).2 ∧ (vOf t L k).2 ≤ 192000000) := hid fun k => by
  obtain ⟨p, h1, h2⟩ := vOf_mem (t := t) hf.ps hf.pos k
  rw [h2]; exact hf.bd p h1
 have hv0 : Hid (vOf t L 0 = suP t (row L 0)) := hid rfl
 obtain ⟨V, hV⟩ : ∃ V, vOf t L = V := ⟨_, rfl⟩
 rw [hV] at hve hstep hbdV hv0
 replace hV := hid hV
 have hsP : Hid (∀ k, suP t (row L k) = (sureN t (row L k), sureD t (row L k))) := hid fun k => rfl
 obtain ⟨SN, hSN⟩ : ∃ f : Nat → Int, ∀ k, sureN t (row L k) = f k := ⟨_, fun _ => rfl⟩
 obtain ⟨SD, hSD⟩ : ∃ f : Nat → Int, ∀ k, sureD t (row L k) = f k := ⟨_, fun _ => rfl⟩
 simp only [hSN, hSD] at hso
 have hsP : ∀ k, suP t (row L k) = (SN k, SD k) := fun k => by rw [hsP.out, hSN, hSD]
 simp only [hsP] at hstep hbdR hv0
 replace hSN := hid hSN
 replace hSD := hid hSD
 obtain ⟨m, hm⟩ : ∃ m, t.length = m := ⟨_, rfl⟩
 rw [hm] at hlen hpl hso ⊢
 obtain ⟨N, hN⟩ : ∃ m, L.length = m := ⟨_, rfl⟩
 rw [hN] at hlen hpl hso hpos hlt hstep hbdR hve
 replace hN := hid hN
 replace hm := hid hm
 replace hL := hid hL
 clear hT hf hsP
 rw [hve.out]
 replace hve := hid hve.out
 go_enter Try.func74, Try.ntmps74
 go_wp2_with fail
 refine (hpl.out _ (hT'.out.ext (by repeat (with_reducible first | assumption | exact Ext.refl _ | refine Ext.drew ?_ | refine Ext.drewN ?_ _ | refine Ext.alloc ?_ _ | refine xS ?_ _ | refine xT ?_ (by assumption))))).mono ?_; rintro e w1 ⟨pa, pc, rfl, hOL, hE1⟩
 obtain ⟨pa', pc', hTe, hTL⟩ := hOL.slice
 simp only [Value.slice.injEq] at hTe
 obtain ⟨rfl, -, -⟩ := hTe
 clear hOL
 have q0 := hE1.cell (p := ⟨w.heap.size, 0, none⟩) (v := .slice a m cap) (by simp [go_sem])
 have q1 := hE1.cell (p := ⟨w.heap.size + 1, 0, none⟩) (v := .int .i64 0) (by simp [go_sem])
 have q2 := hE1.cell (p := ⟨w.heap.size + 1, 1, none⟩) (v := .int .i64 0) (by simp [go_sem])
 have g1 := (hE1.frozen (p := ⟨w.heap.size + 1, 0, none⟩) (by simp [go_sem])).trans (show _ = false by simp [go_sem])
 have g2 := (hE1.frozen (p := ⟨w.heap.size + 1, 1, none⟩) (by simp [go_sem])).trans (show _ = false by simp [go_sem])
 have X := hid (show Ext w w1 from (by repeat (with_reducible first | assumption | exact Ext.refl _ | refine Ext.drew ?_ | refine Ext.drewN ?_ _ | refine Ext.alloc ?_ _ | refine xS ?_ _ | refine xT ?_ (by assumption))))
 have l0 := cell_lt q1
 dsimp only at l0
 obtain ⟨Bx, hBx⟩ : ∃ B, w.heap.size = B := ⟨_, rfl⟩
 rw [hBx] at q0 q1 q2 g1 g2 l0 ⊢
 obtain ⟨pb, po, rfl, hpb, hPC⟩ := hTL.at (by rw [hN.out]; exact hpos)
 rw [hN.out] at hPC
 replace hPC := hid hPC
 replace hTL := hid hTL
 obtain ⟨a0, c0, k0, i0⟩ := hPC.out 0 hpos
 rw [Nat.add_zero] at k0
 rw [hlen.out 0 hpos] at k0
 replace i0 := hid i0
 clear hE1
 replace hBx := hid hBx
 have hpos2 : (0 : Int) < (N : Int) := by omega
 go_wp2_with fail
 refine name_act (fun A_ hA_ => ?_)
 obtain ⟨Q2, hQ2⟩ : ∃ Q2 : Exit → Act → World → Prop, Q2 = fun e a' w' => e = .normal ∧ ∃ (bo : Nat) (v1_ v2_ v3_ : Value), a' = ((((((A_.put (some 9) (.agg #[.slice a m cap])).put (some 10) (v1_)).put (some 11) (v2_)).put (some 12) (v3_)).put (some 13) (.agg #[.int .i64 (SN 0), .int .i64 (SD 0)])).put (some 4) (.pointer (some ⟨bo, 0, none⟩))) ∧ Ext w1 w' ∧ w'.cell? ⟨bo, 0, none⟩ = some (.int .i64 (SN 0)) ∧ w'.cell? ⟨bo, 1, none⟩ = some (.int .i64 (SD 0)) ∧ w'.frozen? ⟨bo, 0, none⟩ = false ∧ w'.frozen? ⟨bo, 1, none⟩ = false ∧ w1.heap.size ≤ bo := ⟨_, rfl⟩
 have hpan : ∀ c a a' w w', Q2 (.panic c) a w → Q2 (.panic c) a' w' := by rw [hQ2]; rintro c a a' w w' ⟨h, _⟩; cases h
 replace hQ2 := hid hQ2
 refine wp_mono (Q := Q2) ?_ ?_
 ·subst hA_
  refine wp_region_held_drew (S := fun w' => Ext w1 w') (by kernel_rfl) (by repeat (with_reducible first | assumption | exact Ext.refl _ | refine Ext.drew ?_ | refine Ext.drewN ?_ _ | refine Ext.alloc ?_ _ | refine xS ?_ _ | refine xT ?_ (by assumption))) fun hHeld => ?_
  refine name_any (fun W0 hW => ?_)
  have s0 : Ext w1 W0 := by rw [hW]; exact hHeld
  clear hW hHeld
  refine tkA (i := 0) (v := ?_) rfl (fun c a w h => hpan c _ _ _ _ h) (Or.inl ⟨by rfl, ?yl⟩) (by assumption) ?_
  case yl => (intro w hSw; (try dsimp only at hSw); have k_0 := Ext.cell hSw q0; have k_1 := Ext.cell hSw k0; go_simp); with_reducible rfl
  try simp only [sxA, sxB, sxC, Act.put, sxD, sxE, sxF]
  refine tkA (i := 1) (v := ?_) rfl (fun c a w h => hpan c _ _ _ _ h) (Or.inl ⟨by rfl, ?yl⟩) (by assumption) ?_
  case yl => (intro w hSw; (try dsimp only at hSw); have k_0 := Ext.cell hSw q0; have k_1 := Ext.cell hSw k0; go_simp); with_reducible rfl
  try simp only [sxA, sxB, sxC, Act.put, sxD, sxE, sxF]
  refine tkA (i := 2) (v := ?_) rfl (fun c a w h => hpan c _ _ _ _ h) (Or.inl ⟨by rfl, ?yl⟩) (by assumption) ?_
  case yl => (intro w hSw; (try dsimp only at hSw); have k_0 := Ext.cell hSw q0; have k_1 := Ext.cell hSw k0; go_simp); with_reducible rfl
  try simp only [sxA, sxB, sxC, Act.put, sxD, sxE, sxF]
  refine tkA (i := 3) (v := ?_) rfl (fun c a w h => hpan c _ _ _ _ h) (Or.inl ⟨by rfl, ?yl⟩) (by assumption) ?_
  case yl => (intro w hSw; (try dsimp only at hSw); have k_0 := Ext.cell hSw q0; have k_1 := Ext.cell hSw k0; go_simp); with_reducible rfl
  try simp only [sxA, sxB, sxC, Act.put, sxD, sxE, sxF]
  refine wpAnyH_ready (rs := [4, 5]) (by kernel_rfl) (by simp) ?_
  refine AllReadyH.cons (o := _) rfl (fun K hK => ?_) ?_
  ·skip
   go_simp
   refine (hso.out 0 hpos _ _ _ (hT'.out.ext (X.out.trans s0)) (i0.out.ext s0)).mono ?_; rintro e W1 ⟨rfl, e1⟩
   have s1 := s0.trans e1
   refine hK.out _ _ s1 (fun _ => ?_)
   clear hK K
   (try simp only [sxA, sxB, sxC, Act.put, sxD, sxE, sxF])
   refine wpAnyH_ready (rs := [5]) (by kernel_rfl) (by simp) ?_
   refine AllReadyH.cons (o := _) rfl (fun K hK => ?_) AllReadyH.nil
   go_simp
   refine hK.out _ _ (Ext.alloc s1 _) (fun _ => ?_)
   clear hK K
   (try simp only [sxA, sxB, sxC, Act.put, sxD, sxE, sxF])
   refine name_any (fun W2 hW => ?_)
   have e2 : Ext W1 W2 := by rw [hW]; exact Ext.alloc (Ext.refl _) _
   have s2 := s1.trans e2
   have b5_0 := hid (show W2.cell? ⟨W1.heap.size, 0, none⟩ = some (.int .i64 0) by rw [hW]; simp [go_sem])
   have b5_1 := hid (show W2.cell? ⟨W1.heap.size, 1, none⟩ = some (.int .i64 0) by rw [hW]; simp [go_sem])
   have d5_0 := hid (show W2.frozen? ⟨W1.heap.size, 0, none⟩ = false by rw [hW]; simp [go_sem])
   have d5_1 := hid (show W2.frozen? ⟨W1.heap.size, 1, none⟩ = false by rw [hW]; simp [go_sem])
   have l5 := hid (show W1.heap.size < W2.heap.size by rw [hW]; simp [go_sem])
   clear hW
   refine wpAnyH_ready (rs := [6]) (by kernel_rfl) (by simp) ?_
   refine AllReadyH.cons (o := _) rfl (fun K hK => ?_) AllReadyH.nil
   have f0 := Ext.cell (Ext.refl W2) b5_0.out
   have g0 := (Ext.frozen (Ext.refl W2) (p := ⟨W1.heap.size, 0, none⟩) l5.out).trans d5_0.out
   have f1 := Ext.cell (Ext.refl W2) b5_1.out
   have g1 := (Ext.frozen (Ext.refl W2) (p := ⟨W1.heap.size, 1, none⟩) l5.out).trans d5_1.out
   have l0_ := s1.size
   go_simp
   refine hK.out _ _ (by repeat (with_reducible first | assumption | exact Ext.refl _ | refine Ext.drew ?_ | refine Ext.drewN ?_ _ | refine Ext.alloc ?_ _ | refine xS ?_ _ | refine xT ?_ (by assumption))) (fun _ => ?_)
   clear hK K
   (try simp only [sxA, sxB, sxC, Act.put, sxD, sxE, sxF])
   refine name_any (fun W3 hW => ?_)
   have s3 : Ext w1 W3 := by rw [hW]; exact (by repeat (with_reducible first | assumption | exact Ext.refl _ | refine Ext.drew ?_ | refine Ext.drewN ?_ _ | refine Ext.alloc ?_ _ | refine xS ?_ _ | refine xT ?_ (by assumption)))
   skip
   have c5_0 := hid (show W3.cell? ⟨W1.heap.size, 0, none⟩ = some (.int .i64 (SN 0)) by rw [hW]; simp [go_sem, f0, f1])
   have c5_1 := hid (show W3.cell? ⟨W1.heap.size, 1, none⟩ = some (.int .i64 (SD 0)) by rw [hW]; simp [go_sem, f0, f1])
   have z5_0 := hid (show W3.frozen? ⟨W1.heap.size, 0, none⟩ = false by rw [hW]; simp [go_sem, World.frozen?_setCell, g0, g1])
   have z5_1 := hid (show W3.frozen? ⟨W1.heap.size, 1, none⟩ = false by rw [hW]; simp [go_sem, World.frozen?_setCell, g0, g1])
   clear hW l0_ f0 g0 f1 g1
   refine wpAnyH_done (by kernel_rfl) ?_ _
   try simp only [sxA, sxB, sxC, Act.put, sxD, sxE, sxF]
   rw [hQ2.out]
   refine ⟨rfl, W1.heap.size, ?u1_0_1, ?u1_1_1, ?u1_2_1, ?eq1_1, s3, ((Ext.refl W3).cell c5_0.out), ((Ext.refl W3).cell c5_1.out), (((Ext.refl W3).frozen (cell_lt c5_0.out)).trans z5_0.out), (((Ext.refl W3).frozen (cell_lt c5_1.out)).trans z5_1.out), s1.size⟩
   case eq1_1 => ((try simp only [sxA, sxB, sxC, Act.put, sxD, sxE, sxF]); first | done | with_reducible rfl | rfl)
  refine AllReadyH.cons (o := _) rfl (fun K hK => ?_) ?_
  ·skip
   go_simp
   refine hK.out _ _ (Ext.alloc s0 _) (fun _ => ?_)
   clear hK K
   (try simp only [sxA, sxB, sxC, Act.put, sxD, sxE, sxF])
   refine name_any (fun W1 hW => ?_)
   have e1 : Ext W0 W1 := by rw [hW]; exact Ext.alloc (Ext.refl _) _
   have s1 := s0.trans e1
   have b5_0 := hid (show W1.cell? ⟨W0.heap.size, 0, none⟩ = some (.int .i64 0) by rw [hW]; simp [go_sem])
   have b5_1 := hid (show W1.cell? ⟨W0.heap.size, 1, none⟩ = some (.int .i64 0) by rw [hW]; simp [go_sem])
   have d5_0 := hid (show W1.frozen? ⟨W0.heap.size, 0, none⟩ = false by rw [hW]; simp [go_sem])
   have d5_1 := hid (show W1.frozen? ⟨W0.heap.size, 1, none⟩ = false by rw [hW]; simp [go_sem])
   have l5 := hid (show W0.heap.size < W1.heap.size by rw [hW]; simp [go_sem])
   clear hW
   refine wpAnyH_ready (rs := [4]) (by kernel_rfl) (by simp) ?_
   refine AllReadyH.cons (o := _) rfl (fun K hK => ?_) AllReadyH.nil
   go_simp
   refine (hso.out 0 hpos _ _ _ (hT'.out.ext (X.out.trans s1)) (i0.out.ext s1)).mono ?_; rintro e W2 ⟨rfl, e2⟩
   have s2 := s1.trans e2
   refine hK.out _ _ s2 (fun _ => ?_)
   clear hK K
   (try simp only [sxA, sxB, sxC, Act.put, sxD, sxE, sxF])
   refine wpAnyH_ready (rs := [6]) (by kernel_rfl) (by simp) ?_
   refine AllReadyH.cons (o := _) rfl (fun K hK => ?_) AllReadyH.nil
   have f0 := Ext.cell ((Ext.refl W1).trans e2) b5_0.out
   have g0 := (Ext.frozen ((Ext.refl W1).trans e2) (p := ⟨W0.heap.size, 0, none⟩) l5.out).trans d5_0.out
   have f1 := Ext.cell ((Ext.refl W1).trans e2) b5_1.out
   have g1 := (Ext.frozen ((Ext.refl W1).trans e2) (p := ⟨W0.heap.size, 1, none⟩) l5.out).trans d5_1.out
   have l0_ := s0.size
   go_simp
   refine hK.out _ _ (by repeat (with_reducible first | assumption | exact Ext.refl _ | refine Ext.drew ?_ | refine Ext.drewN ?_ _ | refine Ext.alloc ?_ _ | refine xS ?_ _ | refine xT ?_ (by assumption))) (fun _ => ?_)
   clear hK K
   (try simp only [sxA, sxB, sxC, Act.put, sxD, sxE, sxF])
   refine name_any (fun W3 hW => ?_)
   have s3 : Ext w1 W3 := by rw [hW]; exact (by repeat (with_reducible first | assumption | exact Ext.refl _ | refine Ext.drew ?_ | refine Ext.drewN ?_ _ | refine Ext.alloc ?_ _ | refine xS ?_ _ | refine xT ?_ (by assumption)))
   skip
   have c5_0 := hid (show W3.cell? ⟨W0.heap.size, 0, none⟩ = some (.int .i64 (SN 0)) by rw [hW]; simp [go_sem, f0, f1])
   have c5_1 := hid (show W3.cell? ⟨W0.heap.size, 1, none⟩ = some (.int .i64 (SD 0)) by rw [hW]; simp [go_sem, f0, f1])
   have z5_0 := hid (show W3.frozen? ⟨W0.heap.size, 0, none⟩ = false by rw [hW]; simp [go_sem, World.frozen?_setCell, g0, g1])
   have z5_1 := hid (show W3.frozen? ⟨W0.heap.size, 1, none⟩ = false by rw [hW]; simp [go_sem, World.frozen?_setCell, g0, g1])
   clear hW l0_ f0 g0 f1 g1
   refine wpAnyH_done (by kernel_rfl) ?_ _
   try simp only [sxA, sxB, sxC, Act.put, sxD, sxE, sxF]
   rw [hQ2.out]
   refine ⟨rfl, W0.heap.size, ?u1_0_2, ?u1_1_2, ?u1_2_2, ?eq1_2, s3, ((Ext.refl W3).cell c5_0.out), ((Ext.refl W3).cell c5_1.out), (((Ext.refl W3).frozen (cell_lt c5_0.out)).trans z5_0.out), (((Ext.refl W3).frozen (cell_lt c5_1.out)).trans z5_1.out), s0.size⟩
   case eq1_2 => ((try simp only [sxA, sxB, sxC, Act.put, sxD, sxE, sxF]); first | done | with_reducible rfl | rfl)
  exact AllReadyH.nil
 rw [hQ2.out]
 rintro e a' w2 ⟨rfl, bo, v1_, v2_, v3_, rfl, x, c5_0, c5_1, fz5_0, fz5_1, z5⟩
 clear hQ2 hpan; clear Q2
 subst hA_
 simp only [sxA, sxB, sxC, Act.put, sxD, sxE, sxF]
 have hb0 := hid (Bx2.mk c5_0 c5_1 fz5_0 fz5_1)
 have hPC1 : Hid (∀ k, k < N → ∃ ai ci, w1.cell? ⟨pb, po + k, none⟩ = some (.slice ai m ci) ∧ Ints w1 ai (row L k)) := hid fun k hk => by
  obtain ⟨ai, ci, h1, h2⟩ := hPC.out k hk
  rw [hlen.out k hk] at h1
  exact ⟨ai, ci, h1, h2⟩
 have hz := hid z5
 have x2 := hid x
 have hres := hid (Bx2.mk q1 q2 g1 g2)
 replace q0 := hid q0
 clear c5_0 c5_1 fz5_0 fz5_1 x k0 i0 hPC hpl q1 q2 g1 g2
 go_wp2_with fail
 go_loopw [5] (fun i wr => ∃ k : Nat, k ≤ N ∧ i = .int .i64 k ∧ Hid (Bx2 wr bo (V k).1 (V k).2) ∧ Hid (Ext w1 wr)) (fun i _ => (N - intOf i).toNat)
 case atStart => exact ⟨0, by omega, rfl, by rw [hv0.out]; exact hb0, x2⟩
 case round =>
  obtain ⟨k, hk, rfl, hb, hx⟩ := hrel
  have z0 := hid (Ext.size hx.out)
  have q0 := hx.out.cell q0.out
  by_cases hkl : k < N
  ·obtain ⟨ak, ck, kk, ik⟩ := hPC1.out k hkl
   replace kk := hx.out.cell kk
   replace ik := hid (ik.ext hx.out)
   have hbk := hbdR.out k hkl
   have hbv := hbdV.out k
   have hst := hid (hstep.out k hkl)
   have hbn := hb
   obtain ⟨vn, hvn⟩ : ∃ x, (V k).1 = x := ⟨_, rfl⟩
   obtain ⟨vd, hvd⟩ : ∃ x, (V k).2 = x := ⟨_, rfl⟩
   have hsk := hid (hso.out k hkl)
   rw [hvn, hvd] at hbv hst hbn
   obtain ⟨sn, hsn⟩ : ∃ x, SN k = x := ⟨_, rfl⟩
   obtain ⟨sd, hsd⟩ : ∃ x, SD k = x := ⟨_, rfl⟩
   rw [hsn, hsd] at hsk hst hbk
   try dsimp only at hbk
   have y1 : I64 (vn * sd) := i64_mul hbv.1 hbv.2.1 hbk.2.2.1 hbk.2.2.2
   have y2 : I64 (sn * vd) := i64_mul hbk.1 hbk.2.1 hbv.2.2.1 hbv.2.2.2
   have hls := hid (lessR_any vn vd sn sd y1 y2)
   have u2 := Go.IntWalk.i64_in ((k : Int) + 1) (by omega)
   obtain ⟨w3, rfl⟩ : ∃ w4 : World, w4 = wr := ⟨_, rfl⟩
   replace hvn := hid hvn
   replace hvd := hid hvd
   replace hsn := hid hsn
   replace hsd := hid hsd
   have hX := hid (X.out.trans hx.out)
   clear hbk hbv y1 y2 hb hb0 x2
   have hkl2 : (k : Int) < (N : Int) := by omega
   go_wp2_with fail
   refine name_act (fun A_ hA_ => ?_)
   obtain ⟨Q2, hQ2⟩ : ∃ Q2 : Exit → Act → World → Prop, Q2 = fun e a' w' => e = .normal ∧ ∃ (bx : Nat) (v1_ v2_ v3_ v4_ : Value), a' = (((((((A_.put (some 20) (.agg #[.slice a m cap])).put (some 21) (v1_)).put (some 22) (v2_)).put (some 23) (v3_)).put (some 24) (v4_)).put (some 25) (.agg #[.int .i64 sn, .int .i64 sd])).put (some 6) (.pointer (some ⟨bx, 0, none⟩))) ∧ Ext w3 w' ∧ w'.cell? ⟨bx, 0, none⟩ = some (.int .i64 sn) ∧ w'.cell? ⟨bx, 1, none⟩ = some (.int .i64 sd) ∧ w'.frozen? ⟨bx, 0, none⟩ = false ∧ w'.frozen? ⟨bx, 1, none⟩ = false ∧ w3.heap.size ≤ bx := ⟨_, rfl⟩
   have hpan : ∀ c a a' w w', Q2 (.panic c) a w → Q2 (.panic c) a' w' := by rw [hQ2]; rintro c a a' w w' ⟨h, _⟩; cases h
   replace hQ2 := hid hQ2
   refine wp_mono (Q := Q2) ?_ ?_
   ·subst hA_
    refine wp_region_held_drew (S := fun w' => Ext w3 w') (by kernel_rfl) (by repeat (with_reducible first | assumption | exact Ext.refl _ | refine Ext.drew ?_ | refine Ext.drewN ?_ _ | refine Ext.alloc ?_ _ | refine xS ?_ _ | refine xT ?_ (by assumption))) fun hHeld => ?_
    refine name_any (fun W0 hW => ?_)
    have s0 : Ext w3 W0 := by rw [hW]; exact hHeld
    clear hW hHeld
    refine tkA (i := 0) (v := ?_) rfl (fun c a w h => hpan c _ _ _ _ h) (Or.inl ⟨by rfl, ?yl⟩) (by assumption) ?_
    case yl => (intro w hSw; (try dsimp only at hSw); have k_0 := Ext.cell hSw q0; have k_1 := Ext.cell hSw kk; go_simp); with_reducible rfl
    try simp only [sxA, sxB, sxC, Act.put, sxD, sxE, sxF]
    refine tkA (i := 1) (v := ?_) rfl (fun c a w h => hpan c _ _ _ _ h) (Or.inl ⟨by rfl, ?yl⟩) (by assumption) ?_
    case yl => (intro w hSw; (try dsimp only at hSw); have k_0 := Ext.cell hSw q0; have k_1 := Ext.cell hSw kk; go_simp); with_reducible rfl
    try simp only [sxA, sxB, sxC, Act.put, sxD, sxE, sxF]
    refine tkA (i := 2) (v := ?_) rfl (fun c a w h => hpan c _ _ _ _ h) (Or.inl ⟨by rfl, ?yl⟩) (by assumption) ?_
    case yl => (intro w hSw; (try dsimp only at hSw); have k_0 := Ext.cell hSw q0; have k_1 := Ext.cell hSw kk; go_simp); with_reducible rfl
    try simp only [sxA, sxB, sxC, Act.put, sxD, sxE, sxF]
    refine tkA (i := 3) (v := ?_) rfl (fun c a w h => hpan c _ _ _ _ h) (Or.inl ⟨by rfl, ?yl⟩) (by assumption) ?_
    case yl => (intro w hSw; (try dsimp only at hSw); have k_0 := Ext.cell hSw q0; have k_1 := Ext.cell hSw kk; go_simp); with_reducible rfl
    try simp only [sxA, sxB, sxC, Act.put, sxD, sxE, sxF]
    refine tkA (i := 4) (v := ?_) rfl (fun c a w h => hpan c _ _ _ _ h) (Or.inl ⟨by rfl, ?yl⟩) (by assumption) ?_
    case yl => (intro w hSw; (try dsimp only at hSw); have k_0 := Ext.cell hSw q0; have k_1 := Ext.cell hSw kk; go_simp); with_reducible rfl
    try simp only [sxA, sxB, sxC, Act.put, sxD, sxE, sxF]
    refine wpAnyH_ready (rs := [5, 6]) (by kernel_rfl) (by simp) ?_
    refine AllReadyH.cons (o := _) rfl (fun K hK => ?_) ?_
    ·skip
     go_simp
     refine (hsk.out _ _ _ (hT'.out.ext (hX.out.trans s0)) (ik.out.ext s0)).mono ?_; rintro e W1 ⟨rfl, e1⟩
     have s1 := s0.trans e1
     refine hK.out _ _ s1 (fun _ => ?_)
     clear hK K
     (try simp only [sxA, sxB, sxC, Act.put, sxD, sxE, sxF])
     refine wpAnyH_ready (rs := [6]) (by kernel_rfl) (by simp) ?_
     refine AllReadyH.cons (o := _) rfl (fun K hK => ?_) AllReadyH.nil
     go_simp
     refine hK.out _ _ (Ext.alloc s1 _) (fun _ => ?_)
     clear hK K
     (try simp only [sxA, sxB, sxC, Act.put, sxD, sxE, sxF])
     refine name_any (fun W2 hW => ?_)
     have e2 : Ext W1 W2 := by rw [hW]; exact Ext.alloc (Ext.refl _) _
     have s2 := s1.trans e2
     have b6_0 := hid (show W2.cell? ⟨W1.heap.size, 0, none⟩ = some (.int .i64 0) by rw [hW]; simp [go_sem])
     have b6_1 := hid (show W2.cell? ⟨W1.heap.size, 1, none⟩ = some (.int .i64 0) by rw [hW]; simp [go_sem])
     have d6_0 := hid (show W2.frozen? ⟨W1.heap.size, 0, none⟩ = false by rw [hW]; simp [go_sem])
     have d6_1 := hid (show W2.frozen? ⟨W1.heap.size, 1, none⟩ = false by rw [hW]; simp [go_sem])
     have l6 := hid (show W1.heap.size < W2.heap.size by rw [hW]; simp [go_sem])
     clear hW
     refine wpAnyH_ready (rs := [7]) (by kernel_rfl) (by simp) ?_
     refine AllReadyH.cons (o := _) rfl (fun K hK => ?_) AllReadyH.nil
     have f0 := Ext.cell (Ext.refl W2) b6_0.out
     have g0 := (Ext.frozen (Ext.refl W2) (p := ⟨W1.heap.size, 0, none⟩) l6.out).trans d6_0.out
     have f1 := Ext.cell (Ext.refl W2) b6_1.out
     have g1 := (Ext.frozen (Ext.refl W2) (p := ⟨W1.heap.size, 1, none⟩) l6.out).trans d6_1.out
     have l0_ := s1.size
     go_simp
     refine hK.out _ _ (by repeat (with_reducible first | assumption | exact Ext.refl _ | refine Ext.drew ?_ | refine Ext.drewN ?_ _ | refine Ext.alloc ?_ _ | refine xS ?_ _ | refine xT ?_ (by assumption))) (fun _ => ?_)
     clear hK K
     (try simp only [sxA, sxB, sxC, Act.put, sxD, sxE, sxF])
     refine name_any (fun W3 hW => ?_)
     have s3 : Ext w3 W3 := by rw [hW]; exact (by repeat (with_reducible first | assumption | exact Ext.refl _ | refine Ext.drew ?_ | refine Ext.drewN ?_ _ | refine Ext.alloc ?_ _ | refine xS ?_ _ | refine xT ?_ (by assumption)))
     skip
     have c6_0 := hid (show W3.cell? ⟨W1.heap.size, 0, none⟩ = some (.int .i64 sn) by rw [hW]; simp [go_sem, f0, f1])
     have c6_1 := hid (show W3.cell? ⟨W1.heap.size, 1, none⟩ = some (.int .i64 sd) by rw [hW]; simp [go_sem, f0, f1])
     have z6_0 := hid (show W3.frozen? ⟨W1.heap.size, 0, none⟩ = false by rw [hW]; simp [go_sem, World.frozen?_setCell, g0, g1])
     have z6_1 := hid (show W3.frozen? ⟨W1.heap.size, 1, none⟩ = false by rw [hW]; simp [go_sem, World.frozen?_setCell, g0, g1])
     clear hW l0_ f0 g0 f1 g1
     refine wpAnyH_done (by kernel_rfl) ?_ _
     try simp only [sxA, sxB, sxC, Act.put, sxD, sxE, sxF]
     rw [hQ2.out]
     refine ⟨rfl, W1.heap.size, ?u2_0_1, ?u2_1_1, ?u2_2_1, ?u2_3_1, ?eq2_1, s3, ((Ext.refl W3).cell c6_0.out), ((Ext.refl W3).cell c6_1.out), (((Ext.refl W3).frozen (cell_lt c6_0.out)).trans z6_0.out), (((Ext.refl W3).frozen (cell_lt c6_1.out)).trans z6_1.out), s1.size⟩
     case eq2_1 => ((try simp only [sxA, sxB, sxC, Act.put, sxD, sxE, sxF]); first | done | with_reducible rfl | rfl)
    refine AllReadyH.cons (o := _) rfl (fun K hK => ?_) ?_
    ·skip
     go_simp
     refine hK.out _ _ (Ext.alloc s0 _) (fun _ => ?_)
     clear hK K
     (try simp only [sxA, sxB, sxC, Act.put, sxD, sxE, sxF])
     refine name_any (fun W1 hW => ?_)
     have e1 : Ext W0 W1 := by rw [hW]; exact Ext.alloc (Ext.refl _) _
     have s1 := s0.trans e1
     have b6_0 := hid (show W1.cell? ⟨W0.heap.size, 0, none⟩ = some (.int .i64 0) by rw [hW]; simp [go_sem])
     have b6_1 := hid (show W1.cell? ⟨W0.heap.size, 1, none⟩ = some (.int .i64 0) by rw [hW]; simp [go_sem])
     have d6_0 := hid (show W1.frozen? ⟨W0.heap.size, 0, none⟩ = false by rw [hW]; simp [go_sem])
     have d6_1 := hid (show W1.frozen? ⟨W0.heap.size, 1, none⟩ = false by rw [hW]; simp [go_sem])
     have l6 := hid (show W0.heap.size < W1.heap.size by rw [hW]; simp [go_sem])
     clear hW
     refine wpAnyH_ready (rs := [5]) (by kernel_rfl) (by simp) ?_
     refine AllReadyH.cons (o := _) rfl (fun K hK => ?_) AllReadyH.nil
     go_simp
     refine (hsk.out _ _ _ (hT'.out.ext (hX.out.trans s1)) (ik.out.ext s1)).mono ?_; rintro e W2 ⟨rfl, e2⟩
     have s2 := s1.trans e2
     refine hK.out _ _ s2 (fun _ => ?_)
     clear hK K
     (try simp only [sxA, sxB, sxC, Act.put, sxD, sxE, sxF])
     refine wpAnyH_ready (rs := [7]) (by kernel_rfl) (by simp) ?_
     refine AllReadyH.cons (o := _) rfl (fun K hK => ?_) AllReadyH.nil
     have f0 := Ext.cell ((Ext.refl W1).trans e2) b6_0.out
     have g0 := (Ext.frozen ((Ext.refl W1).trans e2) (p := ⟨W0.heap.size, 0, none⟩) l6.out).trans d6_0.out
     have f1 := Ext.cell ((Ext.refl W1).trans e2) b6_1.out
     have g1 := (Ext.frozen ((Ext.refl W1).trans e2) (p := ⟨W0.heap.size, 1, none⟩) l6.out).trans d6_1.out
     have l0_ := s0.size
     go_simp
     refine hK.out _ _ (by repeat (with_reducible first | assumption | exact Ext.refl _ | refine Ext.drew ?_ | refine Ext.drewN ?_ _ | refine Ext.alloc ?_ _ | refine xS ?_ _ | refine xT ?_ (by assumption))) (fun _ => ?_)
     clear hK K
     (try simp only [sxA, sxB, sxC, Act.put, sxD, sxE, sxF])
     refine name_any (fun W3 hW => ?_)
     have s3 : Ext w3 W3 := by rw [hW]; exact (by repeat (with_reducible first | assumption | exact Ext.refl _ | refine Ext.drew ?_ | refine Ext.drewN ?_ _ | refine Ext.alloc ?_ _ | refine xS ?_ _ | refine xT ?_ (by assumption)))
     skip
     have c6_0 := hid (show W3.cell? ⟨W0.heap.size, 0, none⟩ = some (.int .i64 sn) by rw [hW]; simp [go_sem, f0, f1])
     have c6_1 := hid (show W3.cell? ⟨W0.heap.size, 1, none⟩ = some (.int .i64 sd) by rw [hW]; simp [go_sem, f0, f1])
     have z6_0 := hid (show W3.frozen? ⟨W0.heap.size, 0, none⟩ = false by rw [hW]; simp [go_sem, World.frozen?_setCell, g0, g1])
     have z6_1 := hid (show W3.frozen? ⟨W0.heap.size, 1, none⟩ = false by rw [hW]; simp [go_sem, World.frozen?_setCell, g0, g1])
     clear hW l0_ f0 g0 f1 g1
     refine wpAnyH_done (by kernel_rfl) ?_ _
     try simp only [sxA, sxB, sxC, Act.put, sxD, sxE, sxF]
     rw [hQ2.out]
     refine ⟨rfl, W0.heap.size, ?u2_0_2, ?u2_1_2, ?u2_2_2, ?u2_3_2, ?eq2_2, s3, ((Ext.refl W3).cell c6_0.out), ((Ext.refl W3).cell c6_1.out), (((Ext.refl W3).frozen (cell_lt c6_0.out)).trans z6_0.out), (((Ext.refl W3).frozen (cell_lt c6_1.out)).trans z6_1.out), s0.size⟩
     case eq2_2 => ((try simp only [sxA, sxB, sxC, Act.put, sxD, sxE, sxF]); first | done | with_reducible rfl | rfl)
    exact AllReadyH.nil
   rw [hQ2.out]
   rintro e a' w4 ⟨rfl, bx, v1_, v2_, v3_, v4_, rfl, x, c6_0, c6_1, fz6_0, fz6_1, z6⟩
   clear hQ2 hpan; clear Q2
   subst hA_
   simp only [sxA, sxB, sxC, Act.put, sxD, sxE, sxF]
   have hbx := hid (Bx2.mk c6_0 c6_1 fz6_0 fz6_1)
   have hbo := hid (hbn.out.ext x)
   have s0 := c6_0
   have s1 := c6_1
   have v0 := hbo.out.c0
   have v1 := hbo.out.c1
   have X4 := hid (hx.out.trans x)
   have zx := x.size
   clear c6_0 c6_1 fz6_0 fz6_1 x kk ik q0
   by_cases hlt2 : vn * sd < sn * vd
   ·have hle : Hid (lessB vn vd sn sd = true) := hid (decide_eq_true hlt2)
    rw [if_pos hlt2] at hst
    replace hlt2 := hid hlt2
    go_wp2_with fail
    refine (hls.out _).mono ?_; rintro e w5 ⟨rfl, hE5⟩
    rw [hle.out]
    have x5 : Ext w4 w5 := (by repeat (with_reducible first | assumption | exact Ext.refl _ | refine Ext.drew ?_ | refine Ext.drewN ?_ _ | refine Ext.alloc ?_ _ | refine xS ?_ _ | refine xT ?_ (by assumption)))
    have r1 := hid (hbo.out.ext x5)
    have r4 := hid (X4.out.trans x5)
    have v0 := r1.out.c0
    have v1 := r1.out.c1
    have f0 := r1.out.f0
    have f1 := r1.out.f1
    have s0 := x5.cell s0
    have s1 := x5.cell s1
    clear hE5 x5
    go_wp2_with fail
    go_roundw
    case rel => exact ⟨k + 1, by omega, by go_num, by rw [hst.out]; exact hid (r1.out.store sn sd), hid ((r4.out.setCell (by have := hz.out; simpa using this) _).setCell (by have := hz.out; simpa using this) _)⟩
    case measure => simp [intOf]; omega
   ·have hle : Hid (lessB vn vd sn sd = false) := hid (decide_eq_false hlt2)
    rw [if_neg hlt2] at hst
    replace hlt2 := hid hlt2
    go_wp2_with fail
    refine (hls.out _).mono ?_; rintro e w5 ⟨rfl, hE5⟩
    rw [hle.out]
    have x5 : Ext w4 w5 := (by repeat (with_reducible first | assumption | exact Ext.refl _ | refine Ext.drew ?_ | refine Ext.drewN ?_ _ | refine Ext.alloc ?_ _ | refine xS ?_ _ | refine xT ?_ (by assumption)))
    have r1 := hid (hbo.out.ext x5)
    have r4 := hid (X4.out.trans x5)
    clear hE5 x5
    go_wp2_with fail
    go_roundw
    case rel => exact ⟨k + 1, by omega, by go_num, by rw [hst.out, hvn.out, hvd.out]; exact r1, r4⟩
    case measure => simp [intOf]; omega
  ·have hkn : k = N := by omega
   rw [hkn] at hb
   have hr := hres.out.ext hx.out
   have r0 := hr.c0
   have r1 := hr.c1
   have g0 := hr.f0
   have g1 := hr.f1
   have v0 := hb.out.c0
   have v1 := hb.out.c1
   have hX := X.out.trans hx.out
   have hbl := hBx.out
   clear hr
   go_wp2_with fail
   refine bodyPost_ret (v := .agg #[.int .i64 (V N).1, .int .i64 (V N).2]) ?_ rfl ?_
   ·simp [results, Try.results74, go_sem, *]
   ·exact ⟨rfl, (hX.setCell (by simp; omega) _).setCell (by simp; omega) _⟩

end Go.Proofs.Ytommhgcgaclflaa
namespace Go.Proofs.Ytommhgcgaclflaa
set_option linter.unusedVariables false
set_option linter.unusedSimpArgs false
set_option linter.unusedSectionVars false
set_option linter.unnecessarySimpa false
open Go Go.RowKit Game
set_option maxRecDepth 100000

set_option maxHeartbeats 2000000 in
theorem valueR_any (t : List (List Int)) (q : FitT t) (a : Option Addr) (cap : Nat) (w : World) (hT : Tab w a t) (hl : t.length ≤ 1000) (hw : ∀ i, (row t i).length ≤ 1000) :
 Calls Try.prog 26 #[(.agg #[.slice a t.length cap])] w fun e w' => e = .returned (.tuple #[.agg #[.int .i64 (valNE t), .int .i64 (valDE t)], .int .i64 (chkT t)]) ∧ Ext w w' := by
 have hT' := hid hT
 have hw' := hid hw
 have hop := hid (fun W hW => checkTableR_any t q a cap W hW hl hw'.out)
 clear hT hw hl
 by_cases g : chkT t = 0
 case neg =>
  have e2 : Hid (valNE t = 0 ∧ valDE t = 0) := hid (by unfold valNE valDE; rw [if_neg g, if_neg g]; exact ⟨rfl, rfl⟩)
  have g1 : (chkT t != 0) = true := by simpa using g
  clear g
  go_enter Try.func26, Try.ntmps26
  go_wp2_with fail
  refine (hop.out _ (hT'.out.ext (by repeat (with_reducible first | assumption | exact Ext.refl _ | refine Ext.drew ?_ | refine Ext.drewN ?_ _ | refine Ext.alloc ?_ _ | refine xS ?_ _ | refine xT ?_ (by assumption))))).mono ?_; rintro e w1 ⟨rfl, hE⟩
  (have F := hid ((fr0 w a t.length cap 24 30).ext hE); obtain ⟨tc, c0, c1, f0, f1, l0⟩ := F.out)
  go_wp2_with fail
  refine (hop.out _ (hT'.out.ext (by repeat (with_reducible first | assumption | exact Ext.refl _ | refine Ext.drew ?_ | refine Ext.drewN ?_ _ | refine Ext.alloc ?_ _ | refine xS ?_ _ | refine xT ?_ (by assumption))))).mono ?_; rintro e w2 ⟨rfl, hE2⟩
  (replace F := hid (F.out.ext hE2); clear tc c0 c1 f0 f1 l0; obtain ⟨tc, c0, c1, f0, f1, l0⟩ := F.out)
  go_wp2_with fail
  refine bodyPost_ret (v := .tuple #[.agg #[.int .i64 0, .int .i64 0], .int .i64 (chkT t)]) ?_ rfl ?_
  ·simp [results, Try.results26, go_sem, *]
  ·exact ⟨by rw [e2.out.1, e2.out.2], (by repeat (with_reducible first | assumption | exact Ext.refl _ | refine Ext.drew ?_ | refine Ext.drewN ?_ _ | refine Ext.alloc ?_ _ | refine xS ?_ _ | refine xT ?_ (by assumption)))⟩
 case pos =>
  have v := chkT_ok.1 g
  have hvo := hid (fun W hW => valueOfR_any t v a cap W hW)
  have e2 : Hid (valNE t = (val t).1 ∧ valDE t = (val t).2) := hid (by unfold valNE valDE; rw [if_pos g, if_pos g]; exact ⟨rfl, rfl⟩)
  obtain ⟨N, hN⟩ : ∃ N, (val t).1 = N := ⟨_, rfl⟩
  obtain ⟨De, hDe⟩ : ∃ N, (val t).2 = N := ⟨_, rfl⟩
  rw [hN] at hvo e2
  rw [hDe] at hvo e2
  replace hN := hid hN
  replace hDe := hid hDe
  replace g := hid g
  clear v
  rw [g.out] at hop ⊢
  go_enter Try.func26, Try.ntmps26
  go_wp2_with fail
  refine (hop.out _ (hT'.out.ext (by repeat (with_reducible first | assumption | exact Ext.refl _ | refine Ext.drew ?_ | refine Ext.drewN ?_ _ | refine Ext.alloc ?_ _ | refine xS ?_ _ | refine xT ?_ (by assumption))))).mono ?_; rintro e w1 ⟨rfl, hE⟩
  (have F := hid ((fr0 w a t.length cap 24 30).ext hE); obtain ⟨tc, c0, c1, f0, f1, l0⟩ := F.out)
  go_wp2_with fail
  refine (hvo.out _ (hT'.out.ext (by repeat (with_reducible first | assumption | exact Ext.refl _ | refine Ext.drew ?_ | refine Ext.drewN ?_ _ | refine Ext.alloc ?_ _ | refine xS ?_ _ | refine xT ?_ (by assumption))))).mono ?_; rintro e w2 ⟨rfl, hE2⟩
  (replace F := hid (F.out.ext hE2); clear tc c0 c1 f0 f1 l0; obtain ⟨tc, c0, c1, f0, f1, l0⟩ := F.out)
  go_wp2_with fail
  refine bodyPost_ret (v := .tuple #[.agg #[.int .i64 N, .int .i64 De], .int .i64 0]) ?_ rfl ?_
  ·simp [results, Try.results26, go_sem, *]
  ·exact ⟨by rw [e2.out.1, e2.out.2], (by repeat (with_reducible first | assumption | exact Ext.refl _ | refine Ext.drew ?_ | refine Ext.drewN ?_ _ | refine Ext.alloc ?_ _ | refine xS ?_ _ | refine xT ?_ (by assumption)))⟩

def ubT (t L : List (List Int)) (f : Nat → Nat → Bool) (m : Nat) : Nat → Nat
 | 0 => 0
 | k + 1 => orTo (ubT t L f m k) (f k) m
theorem ubT_lt (t L : List (List Int)) (f : Nat → Nat → Bool) {m : Nat} (h : m ≤ 4) : ∀ k, ubT t L f m k < 16
 | 0 => by simp [ubT]
 | k + 1 => orTo_lt _ (ubT_lt t L f h k) m h
theorem ubT_bit (t L : List (List Int)) (f : Nat → Nat → Bool) (m i : Nat) (hi : i < m) : ∀ k, (ubT t L f m k).testBit i = true ↔ ∃ j, j < k ∧ f j i = true
 | 0 => by simp [ubT]
 | k + 1 => by
  simp only [ubT]
  rw [orTo_bit]
  simp only [Bool.or_eq_true, Bool.and_eq_true, decide_eq_true_eq, ubT_bit t L f m i hi k]
  constructor
  ·rintro (⟨j, h1, h2⟩ | ⟨_, h⟩)
   ·exact ⟨j, by omega, h2⟩
   ·exact ⟨k, by omega, h⟩
  ·rintro ⟨j, h1, h2⟩
   by_cases e : j = k
   ·subst e; exact .inr ⟨hi, h2⟩
   ·exact .inl ⟨j, by omega, h2⟩
theorem ubT_hi (t L : List (List Int)) (f : Nat → Nat → Bool) (m i : Nat) (hi : m ≤ i) : ∀ k, (ubT t L f m k).testBit i = false
 | 0 => by simp [ubT]
 | k + 1 => by
  simp only [ubT]
  rw [orTo_bit, ubT_hi t L f m i hi k]
  simp; omega
def ubF (t L : List (List Int)) (k i : Nat) : Bool := decide (0 < nth (row L k) i) && decide (suP t (row L k) = val t)
theorem ub_end {t : List (List Int)} (v : VldT t) : ubT t (plansOn t (chs t.length (wid t))) (ubF t (plansOn t (chs t.length (wid t)))) t.length (plansOn t (chs t.length (wid t))).length = usedB t := by
 refine bits_eq _ _ (ubT_lt _ _ _ v.m4 _) (usedB_lt t) fun i hi => ?_
 rw [usedB_bit t hi]
 rcases Nat.lt_or_ge i t.length with g | g
 ·rw [Bool.eq_iff_iff, ubT_bit _ _ _ _ _ g]
  unfold usedP ubF
  rw [List.any_eq_true]
  constructor
  ·rintro ⟨j, hj, e⟩
   simp only [Bool.and_eq_true, decide_eq_true_eq] at e
   obtain ⟨x, h1, h2, h3⟩ := mem_plansOn.1 (List.getElem_mem hj)
   rw [row_lt hj, h3] at e
   exact ⟨x, h1, by simp [h2, e.1, e.2]⟩
  ·rintro ⟨x, h1, e⟩
   simp only [Bool.and_eq_true, decide_eq_true_eq] at e
   obtain ⟨j, hj, h3⟩ := List.getElem_of_mem (mem_plansOn.2 ⟨x, h1, e.1.1, rfl⟩)
   refine ⟨j, hj, ?_⟩
   rw [row_lt hj, h3]
   simp [e.1.2, e.2]
 ·rw [ubT_hi _ _ _ _ _ g, usedP_out g]

set_option maxHeartbeats 8000000 in
theorem usedOfR_any (t : List (List Int)) (v : VldT t) (a : Option Addr) (cap : Nat) (w : World) (hT : Tab w a t) :
 Calls Try.prog 80 #[(.agg #[.slice a t.length cap])] w (RetI (bitsTo (usedB t) 4) w) := by
 have hT' := hid hT
 have hpl := hid (plansR_any t v a cap)
 have hvo := hid (valueOfR_any t v a cap)
 have hf := plF v
 have hue := ub_end v
 have hum := usedB_m v
 have hul := usedB_lt t
 have m4 := v.m4
 have m1 := v.m1
 have hli := hid (fun W => listedR_any (usedB t) t.length hul m4 W)
 rw [← hum] at hli
 obtain ⟨UB, hUB⟩ : ∃ x, usedB t = x := ⟨_, rfl⟩
 rw [hUB] at hue hli hul ⊢
 obtain ⟨L, hL⟩ : ∃ L, plansOn t (chs t.length (wid t)) = L := ⟨_, rfl⟩
 rw [hL] at hpl hf hue
 have hso : Hid (∀ k, k < L.length → ∀ aa cc W, Tab W a t → Ints W aa (row L k) → Calls Try.prog 65 #[(.agg #[.slice a t.length cap]), .slice aa t.length cc] W fun e w' => e = .returned (.agg #[.int .i64 (suP t (row L k)).1, .int .i64 (suP t (row L k)).2]) ∧ Ext W w') :=
  hid fun k hk aa cc W hW hI => by
   have h := sureOfR_any t v (row L k) (hf.nn k hk) (hf.ps _ (row_mem hk)) (hf.len k hk) a cap aa cc W hW hI
   rw [hf.len k hk] at h
   exact h
 have hlen := hid hf.len
 have hpos := hf.pos
 have hlt := hf.lt
 obtain ⟨F, hF⟩ : ∃ F, ubF t L = F := ⟨_, rfl⟩
 have hFd : Hid (∀ k i, F k i = (decide (0 < nth (row L k) i) && decide (suP t (row L k) = val t))) := hid fun k i => by rw [← hF]; rfl
 rw [hF] at hue
 obtain ⟨m, hm⟩ : ∃ m, t.length = m := ⟨_, rfl⟩
 rw [hm] at hlen hpl hso hvo m1 m4 hue hli ⊢
 have hu0 : Hid (ubT t L F m 0 = 0) := hid rfl
 have hus : Hid (∀ k, ubT t L F m (k + 1) = orTo (ubT t L F m k) (F k) m) := hid fun k => rfl
 have hult : Hid (∀ k, ubT t L F m k < 16) := hid (ubT_lt t L F m4)
 obtain ⟨U, hU⟩ : ∃ U, ubT t L F m = U := ⟨_, rfl⟩
 rw [hU] at hue hu0 hus hult
 obtain ⟨N, hN⟩ : ∃ m, L.length = m := ⟨_, rfl⟩
 rw [hN] at hlen hpl hso hpos hlt hue
 obtain ⟨vn, hvn⟩ : ∃ x, (val t).1 = x := ⟨_, rfl⟩
 obtain ⟨vd, hvd⟩ : ∃ x, (val t).2 = x := ⟨_, rfl⟩
 rw [hvn, hvd] at hvo
 have hval : val t = (vn, vd) := by rw [← hvn, ← hvd]
 rw [hval] at hFd
 replace hN := hid hN
 replace hm := hid hm
 replace hL := hid hL
 replace hU := hid hU
 replace hF := hid hF
 replace hUB := hid hUB
 replace hvn := hid hvn
 replace hvd := hid hvd
 replace hue := hid hue
 clear hT hf hum hval
 go_enter Try.func80, Try.ntmps80
 go_wp2_with fail
 refine name_wp (fun w1 hw1 => ?_)
 have X := hid (show Ext w w1 from by rw [hw1]; exact (by repeat (with_reducible first | assumption | exact Ext.refl _ | refine Ext.drew ?_ | refine Ext.drewN ?_ _ | refine Ext.alloc ?_ _ | refine xS ?_ _ | refine xT ?_ (by assumption))))
 have q0 : w1.cell? ⟨w.heap.size, 0, none⟩ = some (.slice a m cap) := by rw [hw1]; simp [go_sem]
 have l0 := cell_lt q0
 dsimp only at l0
 clear hw1
 obtain ⟨Bx, hBx⟩ : ∃ B, w.heap.size = B := ⟨_, rfl⟩
 rw [hBx] at q0 l0 ⊢
 replace hBx := hid hBx
 refine name_act (fun A_ hA_ => ?_)
 obtain ⟨Q2, hQ2⟩ : ∃ Q2 : Exit → Act → World → Prop, Q2 = fun e a' w' => e = .normal ∧ ∃ (pa : Option Addr) (pc : Nat) (bo : Nat) (v0_ v2_ : Value), a' = ((((((A_.put (some 8) (v0_)).put (some 9) (.slice pa N pc)).put (some 10) (v2_)).put (some 11) (.agg #[.int .i64 vn, .int .i64 vd])).put (some 4) (.pointer (some ⟨bo, 0, none⟩))).put (some 3) (.slice pa N pc)) ∧ Ext w1 w' ∧ w'.cell? ⟨bo, 0, none⟩ = some (.int .i64 vn) ∧ w'.cell? ⟨bo, 1, none⟩ = some (.int .i64 vd) ∧ w'.frozen? ⟨bo, 0, none⟩ = false ∧ w'.frozen? ⟨bo, 1, none⟩ = false ∧ w1.heap.size ≤ bo ∧ OwnT w' w1.heap.size w1.heap.size 25 (.slice pa N pc) L := ⟨_, rfl⟩
 have hpan : ∀ c a a' w w', Q2 (.panic c) a w → Q2 (.panic c) a' w' := by rw [hQ2]; rintro c a a' w w' ⟨h, _⟩; cases h
 replace hQ2 := hid hQ2
 refine wp_mono (Q := Q2) ?_ ?_
 ·subst hA_
  refine wp_region_held_drew (S := fun w' => Ext w1 w') (by kernel_rfl) (by repeat (with_reducible first | assumption | exact Ext.refl _ | refine Ext.drew ?_ | refine Ext.drewN ?_ _ | refine Ext.alloc ?_ _ | refine xS ?_ _ | refine xT ?_ (by assumption))) fun hHeld => ?_
  refine name_any (fun W0 hW => ?_)
  have s0 : Ext w1 W0 := by rw [hW]; exact hHeld
  clear hW hHeld
  refine tkA (i := 0) (v := ?_) rfl (fun c a w h => hpan c _ _ _ _ h) (Or.inl ⟨by rfl, ?yl⟩) (by assumption) ?_
  case yl => (intro w hSw; (try dsimp only at hSw); have k_0 := Ext.cell hSw q0; go_simp); with_reducible rfl
  try simp only [sxA, sxB, sxC, Act.put, sxD, sxE, sxF]
  refine tkA (i := 2) (v := ?_) rfl (fun c a w h => hpan c _ _ _ _ h) (Or.inl ⟨by rfl, ?yl⟩) (by assumption) ?_
  case yl => (intro w hSw; (try dsimp only at hSw); have k_0 := Ext.cell hSw q0; go_simp); with_reducible rfl
  try simp only [sxA, sxB, sxC, Act.put, sxD, sxE, sxF]
  refine wpAnyH_ready (rs := [1, 4]) (by kernel_rfl) (by simp) ?_
  refine AllReadyH.cons (o := _) rfl (fun K hK => ?_) ?_
  ·skip
   go_simp
   refine (hpl.out _ (hT'.out.ext (X.out.trans s0))).mono ?_; rintro e W1 ⟨pa, pc, rfl, hOL_, e1⟩
   have s1 := s0.trans e1
   have hOL := hid hOL_; clear hOL_
   refine hK.out _ _ s1 (fun _ => ?_)
   clear hK K
   (try simp only [sxA, sxB, sxC, Act.put, sxD, sxE, sxF])
   refine wpAnyH_ready (rs := [3, 4]) (by kernel_rfl) (by simp) ?_
   refine AllReadyH.cons (o := _) rfl (fun K hK => ?_) ?_
   ·skip
    go_simp
    refine (hvo.out _ (hT'.out.ext (X.out.trans s1))).mono ?_; rintro e W2 ⟨rfl, e2⟩
    have s2 := s1.trans e2
    refine hK.out _ _ s2 (fun _ => ?_)
    clear hK K
    (try simp only [sxA, sxB, sxC, Act.put, sxD, sxE, sxF])
    refine wpAnyH_ready (rs := [4]) (by kernel_rfl) (by simp) ?_
    refine AllReadyH.cons (o := _) rfl (fun K hK => ?_) AllReadyH.nil
    go_simp
    refine hK.out _ _ (Ext.alloc s2 _) (fun _ => ?_)
    clear hK K
    (try simp only [sxA, sxB, sxC, Act.put, sxD, sxE, sxF])
    refine name_any (fun W3 hW => ?_)
    have e3 : Ext W2 W3 := by rw [hW]; exact Ext.alloc (Ext.refl _) _
    have s3 := s2.trans e3
    have b4_0 := hid (show W3.cell? ⟨W2.heap.size, 0, none⟩ = some (.int .i64 0) by rw [hW]; simp [go_sem])
    have b4_1 := hid (show W3.cell? ⟨W2.heap.size, 1, none⟩ = some (.int .i64 0) by rw [hW]; simp [go_sem])
    have d4_0 := hid (show W3.frozen? ⟨W2.heap.size, 0, none⟩ = false by rw [hW]; simp [go_sem])
    have d4_1 := hid (show W3.frozen? ⟨W2.heap.size, 1, none⟩ = false by rw [hW]; simp [go_sem])
    have l4 := hid (show W2.heap.size < W3.heap.size by rw [hW]; simp [go_sem])
    clear hW
    refine tkA (i := 5) (v := ?_) rfl (fun c a w h => hpan c _ _ _ _ h) (Or.inl ⟨by rfl, ?yl⟩) (by assumption) ?_
    case yl => (intro w hSw; (try dsimp only at hSw); have k_0 := Ext.cell hSw q0; go_simp); with_reducible rfl
    try simp only [sxA, sxB, sxC, Act.put, sxD, sxE, sxF]
    refine wpAnyH_ready (rs := [6]) (by kernel_rfl) (by simp) ?_
    refine AllReadyH.cons (o := _) rfl (fun K hK => ?_) AllReadyH.nil
    have f0 := Ext.cell (Ext.refl W3) b4_0.out
    have g0 := (Ext.frozen (Ext.refl W3) (p := ⟨W2.heap.size, 0, none⟩) l4.out).trans d4_0.out
    have f1 := Ext.cell (Ext.refl W3) b4_1.out
    have g1 := (Ext.frozen (Ext.refl W3) (p := ⟨W2.heap.size, 1, none⟩) l4.out).trans d4_1.out
    have l0_ := s2.size
    go_simp
    refine hK.out _ _ (by repeat (with_reducible first | assumption | exact Ext.refl _ | refine Ext.drew ?_ | refine Ext.drewN ?_ _ | refine Ext.alloc ?_ _ | refine xS ?_ _ | refine xT ?_ (by assumption))) (fun _ => ?_)
    clear hK K
    (try simp only [sxA, sxB, sxC, Act.put, sxD, sxE, sxF])
    refine name_any (fun W4 hW => ?_)
    have s4 : Ext w1 W4 := by rw [hW]; exact (by repeat (with_reducible first | assumption | exact Ext.refl _ | refine Ext.drew ?_ | refine Ext.drewN ?_ _ | refine Ext.alloc ?_ _ | refine xS ?_ _ | refine xT ?_ (by assumption)))
    skip
    have c4_0 := hid (show W4.cell? ⟨W2.heap.size, 0, none⟩ = some (.int .i64 vn) by rw [hW]; simp [go_sem, f0, f1])
    have c4_1 := hid (show W4.cell? ⟨W2.heap.size, 1, none⟩ = some (.int .i64 vd) by rw [hW]; simp [go_sem, f0, f1])
    have z4_0 := hid (show W4.frozen? ⟨W2.heap.size, 0, none⟩ = false by rw [hW]; simp [go_sem, World.frozen?_setCell, g0, g1])
    have z4_1 := hid (show W4.frozen? ⟨W2.heap.size, 1, none⟩ = false by rw [hW]; simp [go_sem, World.frozen?_setCell, g0, g1])
    have hOL := hid (hOL.out.ext (show Ext W1 W4 by rw [hW]; have sz_ := ((Ext.refl W1).trans e2).size; have cz_ := (((Ext.refl W1).trans e2).trans e3); exact (by repeat (with_reducible first | assumption | exact Ext.refl _ | refine Ext.drew ?_ | refine Ext.drewN ?_ _ | refine Ext.alloc ?_ _ | refine xS ?_ _ | refine xT ?_ (by assumption)))))
    clear hW l0_ f0 g0 f1 g1
    refine wpAnyH_done (by kernel_rfl) ?_ _
    try simp only [sxA, sxB, sxC, Act.put, sxD, sxE, sxF]
    rw [hQ2.out]
    refine ⟨rfl, pa, pc, W2.heap.size, ?u1_0_1, ?u1_1_1, ?eq1_1, s4, ((Ext.refl W4).cell c4_0.out), ((Ext.refl W4).cell c4_1.out), (((Ext.refl W4).frozen (cell_lt c4_0.out)).trans z4_0.out), (((Ext.refl W4).frozen (cell_lt c4_1.out)).trans z4_1.out), s2.size, ((hOL.out.ext (Ext.refl W4)).low s0.size s0.size)⟩
    case eq1_1 => ((try simp only [sxA, sxB, sxC, Act.put, sxD, sxE, sxF]); first | done | with_reducible rfl | rfl)
   refine AllReadyH.cons (o := _) rfl (fun K hK => ?_) ?_
   ·skip
    go_simp
    refine hK.out _ _ (Ext.alloc s1 _) (fun _ => ?_)
    clear hK K
    (try simp only [sxA, sxB, sxC, Act.put, sxD, sxE, sxF])
    refine name_any (fun W2 hW => ?_)
    have e2 : Ext W1 W2 := by rw [hW]; exact Ext.alloc (Ext.refl _) _
    have s2 := s1.trans e2
    have b4_0 := hid (show W2.cell? ⟨W1.heap.size, 0, none⟩ = some (.int .i64 0) by rw [hW]; simp [go_sem])
    have b4_1 := hid (show W2.cell? ⟨W1.heap.size, 1, none⟩ = some (.int .i64 0) by rw [hW]; simp [go_sem])
    have d4_0 := hid (show W2.frozen? ⟨W1.heap.size, 0, none⟩ = false by rw [hW]; simp [go_sem])
    have d4_1 := hid (show W2.frozen? ⟨W1.heap.size, 1, none⟩ = false by rw [hW]; simp [go_sem])
    have l4 := hid (show W1.heap.size < W2.heap.size by rw [hW]; simp [go_sem])
    clear hW
    refine wpAnyH_ready (rs := [3]) (by kernel_rfl) (by simp) ?_
    refine AllReadyH.cons (o := _) rfl (fun K hK => ?_) AllReadyH.nil
    go_simp
    refine (hvo.out _ (hT'.out.ext (X.out.trans s2))).mono ?_; rintro e W3 ⟨rfl, e3⟩
    have s3 := s2.trans e3
    refine hK.out _ _ s3 (fun _ => ?_)
    clear hK K
    (try simp only [sxA, sxB, sxC, Act.put, sxD, sxE, sxF])
    refine tkA (i := 5) (v := ?_) rfl (fun c a w h => hpan c _ _ _ _ h) (Or.inl ⟨by rfl, ?yl⟩) (by assumption) ?_
    case yl => (intro w hSw; (try dsimp only at hSw); have k_0 := Ext.cell hSw q0; go_simp); with_reducible rfl
    try simp only [sxA, sxB, sxC, Act.put, sxD, sxE, sxF]
    refine wpAnyH_ready (rs := [6]) (by kernel_rfl) (by simp) ?_
    refine AllReadyH.cons (o := _) rfl (fun K hK => ?_) AllReadyH.nil
    have f0 := Ext.cell ((Ext.refl W2).trans e3) b4_0.out
    have g0 := (Ext.frozen ((Ext.refl W2).trans e3) (p := ⟨W1.heap.size, 0, none⟩) l4.out).trans d4_0.out
    have f1 := Ext.cell ((Ext.refl W2).trans e3) b4_1.out
    have g1 := (Ext.frozen ((Ext.refl W2).trans e3) (p := ⟨W1.heap.size, 1, none⟩) l4.out).trans d4_1.out
    have l0_ := s1.size
    go_simp
    refine hK.out _ _ (by repeat (with_reducible first | assumption | exact Ext.refl _ | refine Ext.drew ?_ | refine Ext.drewN ?_ _ | refine Ext.alloc ?_ _ | refine xS ?_ _ | refine xT ?_ (by assumption))) (fun _ => ?_)
    clear hK K
    (try simp only [sxA, sxB, sxC, Act.put, sxD, sxE, sxF])
    refine name_any (fun W4 hW => ?_)
    have s4 : Ext w1 W4 := by rw [hW]; exact (by repeat (with_reducible first | assumption | exact Ext.refl _ | refine Ext.drew ?_ | refine Ext.drewN ?_ _ | refine Ext.alloc ?_ _ | refine xS ?_ _ | refine xT ?_ (by assumption)))
    skip
    have c4_0 := hid (show W4.cell? ⟨W1.heap.size, 0, none⟩ = some (.int .i64 vn) by rw [hW]; simp [go_sem, f0, f1])
    have c4_1 := hid (show W4.cell? ⟨W1.heap.size, 1, none⟩ = some (.int .i64 vd) by rw [hW]; simp [go_sem, f0, f1])
    have z4_0 := hid (show W4.frozen? ⟨W1.heap.size, 0, none⟩ = false by rw [hW]; simp [go_sem, World.frozen?_setCell, g0, g1])
    have z4_1 := hid (show W4.frozen? ⟨W1.heap.size, 1, none⟩ = false by rw [hW]; simp [go_sem, World.frozen?_setCell, g0, g1])
    have hOL := hid (hOL.out.ext (show Ext W1 W4 by rw [hW]; have sz_ := (Ext.refl W1).size; have cz_ := (((Ext.refl W1).trans e2).trans e3); exact (by repeat (with_reducible first | assumption | exact Ext.refl _ | refine Ext.drew ?_ | refine Ext.drewN ?_ _ | refine Ext.alloc ?_ _ | refine xS ?_ _ | refine xT ?_ (by assumption)))))
    clear hW l0_ f0 g0 f1 g1
    refine wpAnyH_done (by kernel_rfl) ?_ _
    try simp only [sxA, sxB, sxC, Act.put, sxD, sxE, sxF]
    rw [hQ2.out]
    refine ⟨rfl, pa, pc, W1.heap.size, ?u1_0_2, ?u1_1_2, ?eq1_2, s4, ((Ext.refl W4).cell c4_0.out), ((Ext.refl W4).cell c4_1.out), (((Ext.refl W4).frozen (cell_lt c4_0.out)).trans z4_0.out), (((Ext.refl W4).frozen (cell_lt c4_1.out)).trans z4_1.out), s1.size, ((hOL.out.ext (Ext.refl W4)).low s0.size s0.size)⟩
    case eq1_2 => ((try simp only [sxA, sxB, sxC, Act.put, sxD, sxE, sxF]); first | done | with_reducible rfl | rfl)
   exact AllReadyH.nil
  refine AllReadyH.cons (o := _) rfl (fun K hK => ?_) ?_
  ·skip
   go_simp
   refine hK.out _ _ (Ext.alloc s0 _) (fun _ => ?_)
   clear hK K
   (try simp only [sxA, sxB, sxC, Act.put, sxD, sxE, sxF])
   refine name_any (fun W1 hW => ?_)
   have e1 : Ext W0 W1 := by rw [hW]; exact Ext.alloc (Ext.refl _) _
   have s1 := s0.trans e1
   have b4_0 := hid (show W1.cell? ⟨W0.heap.size, 0, none⟩ = some (.int .i64 0) by rw [hW]; simp [go_sem])
   have b4_1 := hid (show W1.cell? ⟨W0.heap.size, 1, none⟩ = some (.int .i64 0) by rw [hW]; simp [go_sem])
   have d4_0 := hid (show W1.frozen? ⟨W0.heap.size, 0, none⟩ = false by rw [hW]; simp [go_sem])
   have d4_1 := hid (show W1.frozen? ⟨W0.heap.size, 1, none⟩ = false by rw [hW]; simp [go_sem])
   have l4 := hid (show W0.heap.size < W1.heap.size by rw [hW]; simp [go_sem])
   clear hW
   refine wpAnyH_ready (rs := [1]) (by kernel_rfl) (by simp) ?_
   refine AllReadyH.cons (o := _) rfl (fun K hK => ?_) AllReadyH.nil
   go_simp
   refine (hpl.out _ (hT'.out.ext (X.out.trans s1))).mono ?_; rintro e W2 ⟨pa, pc, rfl, hOL_, e2⟩
   have s2 := s1.trans e2
   have hOL := hid hOL_; clear hOL_
   refine hK.out _ _ s2 (fun _ => ?_)
   clear hK K
   (try simp only [sxA, sxB, sxC, Act.put, sxD, sxE, sxF])
   refine wpAnyH_ready (rs := [3]) (by kernel_rfl) (by simp) ?_
   refine AllReadyH.cons (o := _) rfl (fun K hK => ?_) AllReadyH.nil
   go_simp
   refine (hvo.out _ (hT'.out.ext (X.out.trans s2))).mono ?_; rintro e W3 ⟨rfl, e3⟩
   have s3 := s2.trans e3
   refine hK.out _ _ s3 (fun _ => ?_)
   clear hK K
   (try simp only [sxA, sxB, sxC, Act.put, sxD, sxE, sxF])
   refine tkA (i := 5) (v := ?_) rfl (fun c a w h => hpan c _ _ _ _ h) (Or.inl ⟨by rfl, ?yl⟩) (by assumption) ?_
   case yl => (intro w hSw; (try dsimp only at hSw); have k_0 := Ext.cell hSw q0; go_simp); with_reducible rfl
   try simp only [sxA, sxB, sxC, Act.put, sxD, sxE, sxF]
   refine wpAnyH_ready (rs := [6]) (by kernel_rfl) (by simp) ?_
   refine AllReadyH.cons (o := _) rfl (fun K hK => ?_) AllReadyH.nil
   have f0 := Ext.cell (((Ext.refl W1).trans e2).trans e3) b4_0.out
   have g0 := (Ext.frozen (((Ext.refl W1).trans e2).trans e3) (p := ⟨W0.heap.size, 0, none⟩) l4.out).trans d4_0.out
   have f1 := Ext.cell (((Ext.refl W1).trans e2).trans e3) b4_1.out
   have g1 := (Ext.frozen (((Ext.refl W1).trans e2).trans e3) (p := ⟨W0.heap.size, 1, none⟩) l4.out).trans d4_1.out
   have l0_ := s0.size
   go_simp
   refine hK.out _ _ (by repeat (with_reducible first | assumption | exact Ext.refl _ | refine Ext.drew ?_ | refine Ext.drewN ?_ _ | refine Ext.alloc ?_ _ | refine xS ?_ _ | refine xT ?_ (by assumption))) (fun _ => ?_)
   clear hK K
   (try simp only [sxA, sxB, sxC, Act.put, sxD, sxE, sxF])
   refine name_any (fun W4 hW => ?_)
   have s4 : Ext w1 W4 := by rw [hW]; exact (by repeat (with_reducible first | assumption | exact Ext.refl _ | refine Ext.drew ?_ | refine Ext.drewN ?_ _ | refine Ext.alloc ?_ _ | refine xS ?_ _ | refine xT ?_ (by assumption)))
   skip
   have c4_0 := hid (show W4.cell? ⟨W0.heap.size, 0, none⟩ = some (.int .i64 vn) by rw [hW]; simp [go_sem, f0, f1])
   have c4_1 := hid (show W4.cell? ⟨W0.heap.size, 1, none⟩ = some (.int .i64 vd) by rw [hW]; simp [go_sem, f0, f1])
   have z4_0 := hid (show W4.frozen? ⟨W0.heap.size, 0, none⟩ = false by rw [hW]; simp [go_sem, World.frozen?_setCell, g0, g1])
   have z4_1 := hid (show W4.frozen? ⟨W0.heap.size, 1, none⟩ = false by rw [hW]; simp [go_sem, World.frozen?_setCell, g0, g1])
   have hOL := hid (show OwnT W4 W1.heap.size W1.heap.size 25 (.slice pa N pc) L by rw [hW]; exact (((hOL.out.ext ((Ext.refl W2).trans e3)).put (Nat.lt_of_lt_of_le l4.out (Ext.refl W1).size) (Nat.lt_of_lt_of_le l4.out (Ext.refl W1).size) _).put (Nat.lt_of_lt_of_le l4.out (Ext.refl W1).size) (Nat.lt_of_lt_of_le l4.out (Ext.refl W1).size) _))
   clear hW l0_ f0 g0 f1 g1
   refine wpAnyH_done (by kernel_rfl) ?_ _
   try simp only [sxA, sxB, sxC, Act.put, sxD, sxE, sxF]
   rw [hQ2.out]
   refine ⟨rfl, pa, pc, W0.heap.size, ?u1_0_3, ?u1_1_3, ?eq1_3, s4, ((Ext.refl W4).cell c4_0.out), ((Ext.refl W4).cell c4_1.out), (((Ext.refl W4).frozen (cell_lt c4_0.out)).trans z4_0.out), (((Ext.refl W4).frozen (cell_lt c4_1.out)).trans z4_1.out), s0.size, ((hOL.out.ext (Ext.refl W4)).low s1.size s1.size)⟩
   case eq1_3 => ((try simp only [sxA, sxB, sxC, Act.put, sxD, sxE, sxF]); first | done | with_reducible rfl | rfl)
  exact AllReadyH.nil
 rw [hQ2.out]
 rintro e a' w2 ⟨rfl, pa, pc, bo, v0_, v2_, rfl, x, c4_0, c4_1, fz4_0, fz4_1, z4, hOL⟩
 clear hQ2 hpan; clear Q2
 subst hA_
 simp only [sxA, sxB, sxC, Act.put, sxD, sxE, sxF]
 obtain ⟨pa', pc', hTe, hTL⟩ := hOL.slice
 simp only [Value.slice.injEq] at hTe
 obtain ⟨rfl, -, -⟩ := hTe
 obtain ⟨pb, po, rfl, hpb, hPC⟩ := hTL.at (by rw [hN.out]; exact hpos)
 rw [hN.out] at hPC
 have hPC1 : Hid (∀ k, k < N → ∃ rb ro ci, w2.cell? ⟨pb, po + k, none⟩ = some (.slice (some ⟨rb, ro, none⟩) m ci) ∧ Ints w2 (some ⟨rb, ro, none⟩) (row L k) ∧ ∀ j, j < m → w2.cell? ⟨rb, ro + j, none⟩ = some (.int .i64 (nth (row L k) j))) := hid fun k hk => by
  obtain ⟨ai, ci, h1, h2⟩ := hPC k hk
  rw [hlen.out k hk] at h1
  obtain ⟨rb, ro, rfl, _, h3⟩ := h2.at (by rw [hlen.out k hk]; omega)
  exact ⟨rb, ro, ci, h1, h2, fun j hj => h3 j (by rw [hlen.out k hk]; exact hj)⟩
 have q2 := hid (x.cell q0)
 have X2 := hid (X.out.trans x)
 have V0 := hid c4_0
 have V1 := hid c4_1
 clear hPC hTL hOL c4_0 c4_1 fz4_0 fz4_1 z4 x hpb hpl hvo q0 l0
 go_wp2_with fail
 go_loopw [5, 6] (fun s i wr => ∃ k : Nat, k ≤ N ∧ i = .int .i64 k ∧ s = .int .i64 (U k : Nat) ∧ Hid (Ext w2 wr)) (fun _ i _ => (N - intOf i).toNat)
 case atStart => exact ⟨0, by omega, rfl, by rw [hu0.out]; rfl, hid (Ext.refl _)⟩
 case round =>
  obtain ⟨k, hk, rfl, rfl, hx⟩ := hrel
  have q0 := hx.out.cell q2.out
  by_cases hkl : k < N
  ·obtain ⟨rb, ro, rc, k0, i0, y0⟩ := hPC1.out k hkl
   have K0 := hid k0
   replace i0 := hid i0
   replace y0 := hid y0
   have hsk := hid (hso.out k hkl)
   have hF2 := hid (fun j => hFd.out k j)
   have hO0 : Hid (orTo (U k) (F k) 0 = U k) := hid rfl
   have hOe : Hid (orTo (U k) (F k) m = U (k + 1)) := hid (hus.out k).symm
   have hOs : Hid (∀ j, orTo (U k) (F k) (j + 1) = if F k j then orTo (U k) (F k) j ||| 2 ^ j else orTo (U k) (F k) j) := hid fun j => rfl
   have hOl : Hid (∀ j, j ≤ m → orTo (U k) (F k) j < 16) := hid fun j hj => orTo_lt _ (hult.out k) j (by omega)
   obtain ⟨O, hO⟩ : ∃ O, orTo (U k) (F k) = O := ⟨_, rfl⟩
   rw [hO] at hO0 hOe hOs hOl
   obtain ⟨sn, hsn⟩ : ∃ x, (suP t (row L k)).1 = x := ⟨_, rfl⟩
   obtain ⟨sd, hsd⟩ : ∃ x, (suP t (row L k)).2 = x := ⟨_, rfl⟩
   have hsu : suP t (row L k) = (sn, sd) := by rw [← hsn, ← hsd]
   rw [hsu] at hF2 hsk
   dsimp only at hsk
   replace hsn := hid hsn
   replace hsd := hid hsd
   replace hO := hid hO
   replace hsu := hid hsu
   have k3 := hx.out.cell k0
   obtain ⟨w3, rfl⟩ : ∃ w4 : World, w4 = wr := ⟨_, rfl⟩
   have hkl2 : (k : Int) < (N : Int) := by omega
   clear k0
   go_wp2_with fail
   go_loopw [5, 7] (fun s i wr => ∃ j : Nat, j ≤ m ∧ i = .int .i64 j ∧ s = .int .i64 (O j : Nat) ∧ Hid (Ext w2 wr)) (fun _ i _ => (m - intOf i).toNat)
   case atStart => exact ⟨0, by omega, rfl, by rw [hO0.out], hx⟩
   case round =>
    clear q0 hx k3
    obtain ⟨j, hj, rfl, rfl, hx⟩ := hrel
    have q0 := hx.out.cell q2.out
    have kk := hx.out.cell K0.out
    by_cases hjl : j < m
    ·have yy := hx.out.cell (y0.out j hjl)
     have v0 := hx.out.cell V0.out
     have v1 := hx.out.cell V1.out
     have hX4 := hid (X2.out.trans hx.out)
     have ik := hid (i0.out.ext hx.out)
     have hos := hid (hOs.out j)
     rw [hF2.out j] at hos
     obtain ⟨y, hyy⟩ : ∃ y, nth (row L k) j = y := ⟨_, rfl⟩
     rw [hyy] at yy hos
     replace hyy := hid hyy
     have u2 := Go.IntWalk.i64_in ((j : Int) + 1) (by omega)
     have hjl2 : (j : Int) < (m : Int) := by omega
     have hlo := hOl.out j (by omega)
     have hob := or_bits (O j) j hlo (by omega)
     have hs1 := shl_one j (by omega)
     have hol2 := or_lt (O j) j hlo (by omega)
     obtain ⟨oj, hoj⟩ : ∃ y, O j = y := ⟨_, rfl⟩
     rw [hoj] at hos hlo hob hol2 ⊢
     replace hoj := hid hoj
     obtain ⟨T, hT⟩ : ∃ T, 2 ^ j = T := ⟨_, rfl⟩
     rw [hT] at hob hol2 hos hs1
     replace hT := hid hT
     obtain ⟨w4, rfl⟩ : ∃ w4 : World, w4 = wr := ⟨_, rfl⟩
     by_cases hy0 : 0 < y
     ·rw [decide_eq_true hy0, Bool.true_and] at hos
      by_cases hq : sn = vn ∧ sd = vd
      ·rw [if_pos (by simp [hq.1, hq.2])] at hos
       have eS : ∀ w, (Op.equalIn 10000 30 (.agg #[.int .i64 sn, .int .i64 sd]) (.agg #[.int .i64 vn, .int .i64 vd])).run Try.prog w = .ok true w := fun w => by rw [run_eqRatio, decide_eq_true hq]
       replace hq := hid hq
       go_wp2_with fail
       refine name_act (fun A_ hA_ => ?_)
       obtain ⟨Q2, hQ2⟩ : ∃ Q2 : Exit → Act → World → Prop, Q2 = fun e a' w' => e = .normal ∧ ∃ (v0_ v1_ v2_ v3_ v4_ v5_ v6_ v9_ v10_ v11_ v12_ v13_ v15_ v16_ : Value), a' = ((((((((((((((((((A_.put (some 27) (v0_)).put (some 28) (v1_)).put (some 29) (v2_)).put (some 30) (v3_)).put (some 31) (v4_)).put (some 32) (v5_)).put (some 33) (v6_)).put (some 34) (.bool true)).put (some 35) (.bool true)).put (some 36) (v9_)).put (some 37) (v10_)).put (some 38) (v11_)).put (some 39) (v12_)).put (some 40) (v13_)).put (some 41) (.agg #[.int .i64 sn, .int .i64 sd])).put (some 42) (v15_)).put (some 43) (v16_)).put (some 44) (.bool true)) ∧ Ext w4 w' := ⟨_, rfl⟩
       have hpan : ∀ c a a' w w', Q2 (.panic c) a w → Q2 (.panic c) a' w' := by rw [hQ2]; rintro c a a' w w' ⟨h, _⟩; cases h
       replace hQ2 := hid hQ2
       refine wp_mono (Q := Q2) ?_ ?_
       ·subst hA_
        refine wp_region_held_drew (S := fun w' => Ext w4 w') (by kernel_rfl) (by repeat (with_reducible first | assumption | exact Ext.refl _ | refine Ext.drew ?_ | refine Ext.drewN ?_ _ | refine Ext.alloc ?_ _ | refine xS ?_ _ | refine xT ?_ (by assumption))) fun hHeld => ?_
        refine name_any (fun W0 hW => ?_)
        have s0 : Ext w4 W0 := by rw [hW]; exact hHeld
        clear hW hHeld
        refine tkA (i := 0) (v := ?_) rfl (fun c a w h => hpan c _ _ _ _ h) (Or.inl ⟨by rfl, ?yl⟩) (by assumption) ?_
        case yl => (intro w hSw; (try dsimp only at hSw); have k_0 := Ext.cell hSw q0; have k_1 := Ext.cell hSw kk; have k_2 := Ext.cell hSw yy; have k_3 := Ext.cell hSw v0; have k_4 := Ext.cell hSw v1; go_simp); with_reducible rfl
        try simp only [sxA, sxB, sxC, Act.put, sxD, sxE, sxF]
        refine tkA (i := 1) (v := ?_) rfl (fun c a w h => hpan c _ _ _ _ h) (Or.inl ⟨by rfl, ?yl⟩) (by assumption) ?_
        case yl => (intro w hSw; (try dsimp only at hSw); have k_0 := Ext.cell hSw q0; have k_1 := Ext.cell hSw kk; have k_2 := Ext.cell hSw yy; have k_3 := Ext.cell hSw v0; have k_4 := Ext.cell hSw v1; go_simp); with_reducible rfl
        try simp only [sxA, sxB, sxC, Act.put, sxD, sxE, sxF]
        refine tkA (i := 2) (v := ?_) rfl (fun c a w h => hpan c _ _ _ _ h) (Or.inl ⟨by rfl, ?yl⟩) (by assumption) ?_
        case yl => (intro w hSw; (try dsimp only at hSw); have k_0 := Ext.cell hSw q0; have k_1 := Ext.cell hSw kk; have k_2 := Ext.cell hSw yy; have k_3 := Ext.cell hSw v0; have k_4 := Ext.cell hSw v1; go_simp); with_reducible rfl
        try simp only [sxA, sxB, sxC, Act.put, sxD, sxE, sxF]
        refine tkA (i := 3) (v := ?_) rfl (fun c a w h => hpan c _ _ _ _ h) (Or.inl ⟨by rfl, ?yl⟩) (by assumption) ?_
        case yl => (intro w hSw; (try dsimp only at hSw); have k_0 := Ext.cell hSw q0; have k_1 := Ext.cell hSw kk; have k_2 := Ext.cell hSw yy; have k_3 := Ext.cell hSw v0; have k_4 := Ext.cell hSw v1; go_simp); with_reducible rfl
        try simp only [sxA, sxB, sxC, Act.put, sxD, sxE, sxF]
        refine tkA (i := 4) (v := ?_) rfl (fun c a w h => hpan c _ _ _ _ h) (Or.inl ⟨by rfl, ?yl⟩) (by assumption) ?_
        case yl => (intro w hSw; (try dsimp only at hSw); have k_0 := Ext.cell hSw q0; have k_1 := Ext.cell hSw kk; have k_2 := Ext.cell hSw yy; have k_3 := Ext.cell hSw v0; have k_4 := Ext.cell hSw v1; go_simp); with_reducible rfl
        try simp only [sxA, sxB, sxC, Act.put, sxD, sxE, sxF]
        refine tkA (i := 5) (v := ?_) rfl (fun c a w h => hpan c _ _ _ _ h) (Or.inl ⟨by rfl, ?yl⟩) (by assumption) ?_
        case yl => (intro w hSw; (try dsimp only at hSw); have k_0 := Ext.cell hSw q0; have k_1 := Ext.cell hSw kk; have k_2 := Ext.cell hSw yy; have k_3 := Ext.cell hSw v0; have k_4 := Ext.cell hSw v1; go_simp); with_reducible rfl
        try simp only [sxA, sxB, sxC, Act.put, sxD, sxE, sxF]
        refine tkA (i := 6) (v := ?_) rfl (fun c a w h => hpan c _ _ _ _ h) (Or.inl ⟨by rfl, ?yl⟩) (by assumption) ?_
        case yl => (intro w hSw; (try dsimp only at hSw); have k_0 := Ext.cell hSw q0; have k_1 := Ext.cell hSw kk; have k_2 := Ext.cell hSw yy; have k_3 := Ext.cell hSw v0; have k_4 := Ext.cell hSw v1; go_simp); with_reducible rfl
        try simp only [sxA, sxB, sxC, Act.put, sxD, sxE, sxF]
        refine tkA (i := 7) (v := .bool true) rfl (fun c a w h => hpan c _ _ _ _ h) (Or.inl ⟨by rfl, ?yl⟩) (by assumption) ?_
        case yl => (intro w hSw; (try dsimp only at hSw); have k_0 := Ext.cell hSw q0; have k_1 := Ext.cell hSw kk; have k_2 := Ext.cell hSw yy; have k_3 := Ext.cell hSw v0; have k_4 := Ext.cell hSw v1; go_simp; first | done | with_reducible rfl | (simp only [decide_eq_true hy0]; done) | (simp [decide_eq_true hy0]; done))
        try simp only [sxA, sxB, sxC, Act.put, sxD, sxE, sxF]
        refine tkA (i := 8) (v := .bool true) rfl (fun c a w h => hpan c _ _ _ _ h) (Or.inl ⟨by rfl, ?yl⟩) (by assumption) ?_
        case yl => (intro w hSw; (try dsimp only at hSw); have k_0 := Ext.cell hSw q0; have k_1 := Ext.cell hSw kk; have k_2 := Ext.cell hSw yy; have k_3 := Ext.cell hSw v0; have k_4 := Ext.cell hSw v1; go_simp; first | done | with_reducible rfl | (simp only [decide_eq_true hy0]; done) | (simp [decide_eq_true hy0]; done))
        try simp only [sxA, sxB, sxC, Act.put, sxD, sxE, sxF]
        refine tkA (i := 9) (v := ?_) rfl (fun c a w h => hpan c _ _ _ _ h) (Or.inl ⟨by rfl, ?yl⟩) (by assumption) ?_
        case yl => (intro w hSw; (try dsimp only at hSw); have k_0 := Ext.cell hSw q0; have k_1 := Ext.cell hSw kk; have k_2 := Ext.cell hSw yy; have k_3 := Ext.cell hSw v0; have k_4 := Ext.cell hSw v1; go_simp); with_reducible rfl
        try simp only [sxA, sxB, sxC, Act.put, sxD, sxE, sxF]
        refine tkA (i := 10) (v := ?_) rfl (fun c a w h => hpan c _ _ _ _ h) (Or.inl ⟨by rfl, ?yl⟩) (by assumption) ?_
        case yl => (intro w hSw; (try dsimp only at hSw); have k_0 := Ext.cell hSw q0; have k_1 := Ext.cell hSw kk; have k_2 := Ext.cell hSw yy; have k_3 := Ext.cell hSw v0; have k_4 := Ext.cell hSw v1; go_simp); with_reducible rfl
        try simp only [sxA, sxB, sxC, Act.put, sxD, sxE, sxF]
        refine tkA (i := 11) (v := ?_) rfl (fun c a w h => hpan c _ _ _ _ h) (Or.inl ⟨by rfl, ?yl⟩) (by assumption) ?_
        case yl => (intro w hSw; (try dsimp only at hSw); have k_0 := Ext.cell hSw q0; have k_1 := Ext.cell hSw kk; have k_2 := Ext.cell hSw yy; have k_3 := Ext.cell hSw v0; have k_4 := Ext.cell hSw v1; go_simp); with_reducible rfl
        try simp only [sxA, sxB, sxC, Act.put, sxD, sxE, sxF]
        refine tkA (i := 12) (v := ?_) rfl (fun c a w h => hpan c _ _ _ _ h) (Or.inl ⟨by rfl, ?yl⟩) (by assumption) ?_
        case yl => (intro w hSw; (try dsimp only at hSw); have k_0 := Ext.cell hSw q0; have k_1 := Ext.cell hSw kk; have k_2 := Ext.cell hSw yy; have k_3 := Ext.cell hSw v0; have k_4 := Ext.cell hSw v1; go_simp); with_reducible rfl
        try simp only [sxA, sxB, sxC, Act.put, sxD, sxE, sxF]
        refine tkA (i := 13) (v := ?_) rfl (fun c a w h => hpan c _ _ _ _ h) (Or.inl ⟨by rfl, ?yl⟩) (by assumption) ?_
        case yl => (intro w hSw; (try dsimp only at hSw); have k_0 := Ext.cell hSw q0; have k_1 := Ext.cell hSw kk; have k_2 := Ext.cell hSw yy; have k_3 := Ext.cell hSw v0; have k_4 := Ext.cell hSw v1; go_simp); with_reducible rfl
        try simp only [sxA, sxB, sxC, Act.put, sxD, sxE, sxF]
        refine tkA (i := 15) (v := ?_) rfl (fun c a w h => hpan c _ _ _ _ h) (Or.inl ⟨by rfl, ?yl⟩) (by assumption) ?_
        case yl => (intro w hSw; (try dsimp only at hSw); have k_0 := Ext.cell hSw q0; have k_1 := Ext.cell hSw kk; have k_2 := Ext.cell hSw yy; have k_3 := Ext.cell hSw v0; have k_4 := Ext.cell hSw v1; go_simp); with_reducible rfl
        try simp only [sxA, sxB, sxC, Act.put, sxD, sxE, sxF]
        refine wpAnyH_ready (rs := [14]) (by kernel_rfl) (by simp) ?_
        refine AllReadyH.cons (o := _) rfl (fun K hK => ?_) AllReadyH.nil
        go_simp
        refine (hsk.out _ _ _ (hT'.out.ext (hX4.out.trans s0)) (ik.out.ext s0)).mono ?_; rintro e W1 ⟨rfl, e1⟩
        have s1 := s0.trans e1
        refine hK.out _ _ s1 (fun _ => ?_)
        clear hK K
        (try simp only [sxA, sxB, sxC, Act.put, sxD, sxE, sxF])
        refine tkA (i := 16) (v := ?_) rfl (fun c a w h => hpan c _ _ _ _ h) (Or.inl ⟨by rfl, ?yl⟩) (by assumption) ?_
        case yl => (intro w hSw; (try dsimp only at hSw); have k_0 := Ext.cell hSw q0; have k_1 := Ext.cell hSw kk; have k_2 := Ext.cell hSw yy; have k_3 := Ext.cell hSw v0; have k_4 := Ext.cell hSw v1; go_simp); with_reducible rfl
        try simp only [sxA, sxB, sxC, Act.put, sxD, sxE, sxF]
        refine tkA (i := 17) (v := .bool true) rfl (fun c a w h => hpan c _ _ _ _ h) (Or.inl ⟨by rfl, ?yl⟩) (by assumption) ?_
        case yl => (intro w hSw; (try dsimp only at hSw); have k_0 := Ext.cell hSw q0; have k_1 := Ext.cell hSw kk; have k_2 := Ext.cell hSw yy; have k_3 := Ext.cell hSw v0; have k_4 := Ext.cell hSw v1; go_simp; first | done | with_reducible rfl | (simp only [decide_eq_true hy0]; done) | (simp [decide_eq_true hy0]; done))
        try simp only [sxA, sxB, sxC, Act.put, sxD, sxE, sxF]
        refine wpAnyH_done (by kernel_rfl) ?_ _
        try simp only [sxA, sxB, sxC, Act.put, sxD, sxE, sxF]
        rw [hQ2.out]
        refine ⟨rfl, ?u2_0_1, ?u2_1_1, ?u2_2_1, ?u2_3_1, ?u2_4_1, ?u2_5_1, ?u2_6_1, ?u2_7_1, ?u2_8_1, ?u2_9_1, ?u2_10_1, ?u2_11_1, ?u2_12_1, ?u2_13_1, ?eq2_1, s1⟩
        case eq2_1 => ((try simp only [sxA, sxB, sxC, Act.put, sxD, sxE, sxF]); first | done | with_reducible rfl | rfl)
       rw [hQ2.out]
       rintro e a' w5 ⟨rfl, v0_, v1_, v2_, v3_, v4_, v5_, v6_, v9_, v10_, v11_, v12_, v13_, v15_, v16_, rfl, x⟩
       clear hQ2 hpan; clear Q2
       subst hA_
       simp only [sxA, sxB, sxC, Act.put, sxD, sxE, sxF]
       have x5 := hid (hx.out.trans x)
       clear x q0 kk yy v0 v1 eS
       go_wp2_with fail
       go_roundw
       case rel => exact ⟨j + 1, by omega, by go_num, by rw [hos.out, ← hob], x5⟩
       case measure => simp [intOf]; omega
      ·rw [if_neg (by simp; intro h1 h2; exact hq ⟨h1, h2⟩)] at hos
       have eS : ∀ w, (Op.equalIn 10000 30 (.agg #[.int .i64 sn, .int .i64 sd]) (.agg #[.int .i64 vn, .int .i64 vd])).run Try.prog w = .ok false w := fun w => by rw [run_eqRatio, decide_eq_false hq]
       replace hq := hid hq
       go_wp2_with fail
       refine name_act (fun A_ hA_ => ?_)
       obtain ⟨Q2, hQ2⟩ : ∃ Q2 : Exit → Act → World → Prop, Q2 = fun e a' w' => e = .normal ∧ ∃ (v0_ v1_ v2_ v3_ v4_ v5_ v6_ v9_ v10_ v11_ v12_ v13_ v15_ v16_ : Value), a' = ((((((((((((((((((A_.put (some 27) (v0_)).put (some 28) (v1_)).put (some 29) (v2_)).put (some 30) (v3_)).put (some 31) (v4_)).put (some 32) (v5_)).put (some 33) (v6_)).put (some 34) (.bool true)).put (some 35) (.bool true)).put (some 36) (v9_)).put (some 37) (v10_)).put (some 38) (v11_)).put (some 39) (v12_)).put (some 40) (v13_)).put (some 41) (.agg #[.int .i64 sn, .int .i64 sd])).put (some 42) (v15_)).put (some 43) (v16_)).put (some 44) (.bool false)) ∧ Ext w4 w' := ⟨_, rfl⟩
       have hpan : ∀ c a a' w w', Q2 (.panic c) a w → Q2 (.panic c) a' w' := by rw [hQ2]; rintro c a a' w w' ⟨h, _⟩; cases h
       replace hQ2 := hid hQ2
       refine wp_mono (Q := Q2) ?_ ?_
       ·subst hA_
        refine wp_region_held_drew (S := fun w' => Ext w4 w') (by kernel_rfl) (by repeat (with_reducible first | assumption | exact Ext.refl _ | refine Ext.drew ?_ | refine Ext.drewN ?_ _ | refine Ext.alloc ?_ _ | refine xS ?_ _ | refine xT ?_ (by assumption))) fun hHeld => ?_
        refine name_any (fun W0 hW => ?_)
        have s0 : Ext w4 W0 := by rw [hW]; exact hHeld
        clear hW hHeld
        refine tkA (i := 0) (v := ?_) rfl (fun c a w h => hpan c _ _ _ _ h) (Or.inl ⟨by rfl, ?yl⟩) (by assumption) ?_
        case yl => (intro w hSw; (try dsimp only at hSw); have k_0 := Ext.cell hSw q0; have k_1 := Ext.cell hSw kk; have k_2 := Ext.cell hSw yy; have k_3 := Ext.cell hSw v0; have k_4 := Ext.cell hSw v1; go_simp); with_reducible rfl
        try simp only [sxA, sxB, sxC, Act.put, sxD, sxE, sxF]
        refine tkA (i := 1) (v := ?_) rfl (fun c a w h => hpan c _ _ _ _ h) (Or.inl ⟨by rfl, ?yl⟩) (by assumption) ?_
        case yl => (intro w hSw; (try dsimp only at hSw); have k_0 := Ext.cell hSw q0; have k_1 := Ext.cell hSw kk; have k_2 := Ext.cell hSw yy; have k_3 := Ext.cell hSw v0; have k_4 := Ext.cell hSw v1; go_simp); with_reducible rfl
        try simp only [sxA, sxB, sxC, Act.put, sxD, sxE, sxF]
        refine tkA (i := 2) (v := ?_) rfl (fun c a w h => hpan c _ _ _ _ h) (Or.inl ⟨by rfl, ?yl⟩) (by assumption) ?_
        case yl => (intro w hSw; (try dsimp only at hSw); have k_0 := Ext.cell hSw q0; have k_1 := Ext.cell hSw kk; have k_2 := Ext.cell hSw yy; have k_3 := Ext.cell hSw v0; have k_4 := Ext.cell hSw v1; go_simp); with_reducible rfl
        try simp only [sxA, sxB, sxC, Act.put, sxD, sxE, sxF]
        refine tkA (i := 3) (v := ?_) rfl (fun c a w h => hpan c _ _ _ _ h) (Or.inl ⟨by rfl, ?yl⟩) (by assumption) ?_
        case yl => (intro w hSw; (try dsimp only at hSw); have k_0 := Ext.cell hSw q0; have k_1 := Ext.cell hSw kk; have k_2 := Ext.cell hSw yy; have k_3 := Ext.cell hSw v0; have k_4 := Ext.cell hSw v1; go_simp); with_reducible rfl
        try simp only [sxA, sxB, sxC, Act.put, sxD, sxE, sxF]
        refine tkA (i := 4) (v := ?_) rfl (fun c a w h => hpan c _ _ _ _ h) (Or.inl ⟨by rfl, ?yl⟩) (by assumption) ?_
        case yl => (intro w hSw; (try dsimp only at hSw); have k_0 := Ext.cell hSw q0; have k_1 := Ext.cell hSw kk; have k_2 := Ext.cell hSw yy; have k_3 := Ext.cell hSw v0; have k_4 := Ext.cell hSw v1; go_simp); with_reducible rfl
        try simp only [sxA, sxB, sxC, Act.put, sxD, sxE, sxF]
        refine tkA (i := 5) (v := ?_) rfl (fun c a w h => hpan c _ _ _ _ h) (Or.inl ⟨by rfl, ?yl⟩) (by assumption) ?_
        case yl => (intro w hSw; (try dsimp only at hSw); have k_0 := Ext.cell hSw q0; have k_1 := Ext.cell hSw kk; have k_2 := Ext.cell hSw yy; have k_3 := Ext.cell hSw v0; have k_4 := Ext.cell hSw v1; go_simp); with_reducible rfl
        try simp only [sxA, sxB, sxC, Act.put, sxD, sxE, sxF]
        refine tkA (i := 6) (v := ?_) rfl (fun c a w h => hpan c _ _ _ _ h) (Or.inl ⟨by rfl, ?yl⟩) (by assumption) ?_
        case yl => (intro w hSw; (try dsimp only at hSw); have k_0 := Ext.cell hSw q0; have k_1 := Ext.cell hSw kk; have k_2 := Ext.cell hSw yy; have k_3 := Ext.cell hSw v0; have k_4 := Ext.cell hSw v1; go_simp); with_reducible rfl
        try simp only [sxA, sxB, sxC, Act.put, sxD, sxE, sxF]
        refine tkA (i := 7) (v := .bool true) rfl (fun c a w h => hpan c _ _ _ _ h) (Or.inl ⟨by rfl, ?yl⟩) (by assumption) ?_
        case yl => (intro w hSw; (try dsimp only at hSw); have k_0 := Ext.cell hSw q0; have k_1 := Ext.cell hSw kk; have k_2 := Ext.cell hSw yy; have k_3 := Ext.cell hSw v0; have k_4 := Ext.cell hSw v1; go_simp; first | done | with_reducible rfl | (simp only [decide_eq_true hy0]; done) | (simp [decide_eq_true hy0]; done))
        try simp only [sxA, sxB, sxC, Act.put, sxD, sxE, sxF]
        refine tkA (i := 8) (v := .bool true) rfl (fun c a w h => hpan c _ _ _ _ h) (Or.inl ⟨by rfl, ?yl⟩) (by assumption) ?_
        case yl => (intro w hSw; (try dsimp only at hSw); have k_0 := Ext.cell hSw q0; have k_1 := Ext.cell hSw kk; have k_2 := Ext.cell hSw yy; have k_3 := Ext.cell hSw v0; have k_4 := Ext.cell hSw v1; go_simp; first | done | with_reducible rfl | (simp only [decide_eq_true hy0]; done) | (simp [decide_eq_true hy0]; done))
        try simp only [sxA, sxB, sxC, Act.put, sxD, sxE, sxF]
        refine tkA (i := 9) (v := ?_) rfl (fun c a w h => hpan c _ _ _ _ h) (Or.inl ⟨by rfl, ?yl⟩) (by assumption) ?_
        case yl => (intro w hSw; (try dsimp only at hSw); have k_0 := Ext.cell hSw q0; have k_1 := Ext.cell hSw kk; have k_2 := Ext.cell hSw yy; have k_3 := Ext.cell hSw v0; have k_4 := Ext.cell hSw v1; go_simp); with_reducible rfl
        try simp only [sxA, sxB, sxC, Act.put, sxD, sxE, sxF]
        refine tkA (i := 10) (v := ?_) rfl (fun c a w h => hpan c _ _ _ _ h) (Or.inl ⟨by rfl, ?yl⟩) (by assumption) ?_
        case yl => (intro w hSw; (try dsimp only at hSw); have k_0 := Ext.cell hSw q0; have k_1 := Ext.cell hSw kk; have k_2 := Ext.cell hSw yy; have k_3 := Ext.cell hSw v0; have k_4 := Ext.cell hSw v1; go_simp); with_reducible rfl
        try simp only [sxA, sxB, sxC, Act.put, sxD, sxE, sxF]
        refine tkA (i := 11) (v := ?_) rfl (fun c a w h => hpan c _ _ _ _ h) (Or.inl ⟨by rfl, ?yl⟩) (by assumption) ?_
        case yl => (intro w hSw; (try dsimp only at hSw); have k_0 := Ext.cell hSw q0; have k_1 := Ext.cell hSw kk; have k_2 := Ext.cell hSw yy; have k_3 := Ext.cell hSw v0; have k_4 := Ext.cell hSw v1; go_simp); with_reducible rfl
        try simp only [sxA, sxB, sxC, Act.put, sxD, sxE, sxF]
        refine tkA (i := 12) (v := ?_) rfl (fun c a w h => hpan c _ _ _ _ h) (Or.inl ⟨by rfl, ?yl⟩) (by assumption) ?_
        case yl => (intro w hSw; (try dsimp only at hSw); have k_0 := Ext.cell hSw q0; have k_1 := Ext.cell hSw kk; have k_2 := Ext.cell hSw yy; have k_3 := Ext.cell hSw v0; have k_4 := Ext.cell hSw v1; go_simp); with_reducible rfl
        try simp only [sxA, sxB, sxC, Act.put, sxD, sxE, sxF]
        refine tkA (i := 13) (v := ?_) rfl (fun c a w h => hpan c _ _ _ _ h) (Or.inl ⟨by rfl, ?yl⟩) (by assumption) ?_
        case yl => (intro w hSw; (try dsimp only at hSw); have k_0 := Ext.cell hSw q0; have k_1 := Ext.cell hSw kk; have k_2 := Ext.cell hSw yy; have k_3 := Ext.cell hSw v0; have k_4 := Ext.cell hSw v1; go_simp); with_reducible rfl
        try simp only [sxA, sxB, sxC, Act.put, sxD, sxE, sxF]
        refine tkA (i := 15) (v := ?_) rfl (fun c a w h => hpan c _ _ _ _ h) (Or.inl ⟨by rfl, ?yl⟩) (by assumption) ?_
        case yl => (intro w hSw; (try dsimp only at hSw); have k_0 := Ext.cell hSw q0; have k_1 := Ext.cell hSw kk; have k_2 := Ext.cell hSw yy; have k_3 := Ext.cell hSw v0; have k_4 := Ext.cell hSw v1; go_simp); with_reducible rfl
        try simp only [sxA, sxB, sxC, Act.put, sxD, sxE, sxF]
        refine wpAnyH_ready (rs := [14]) (by kernel_rfl) (by simp) ?_
        refine AllReadyH.cons (o := _) rfl (fun K hK => ?_) AllReadyH.nil
        go_simp
        refine (hsk.out _ _ _ (hT'.out.ext (hX4.out.trans s0)) (ik.out.ext s0)).mono ?_; rintro e W1 ⟨rfl, e1⟩
        have s1 := s0.trans e1
        refine hK.out _ _ s1 (fun _ => ?_)
        clear hK K
        (try simp only [sxA, sxB, sxC, Act.put, sxD, sxE, sxF])
        refine tkA (i := 16) (v := ?_) rfl (fun c a w h => hpan c _ _ _ _ h) (Or.inl ⟨by rfl, ?yl⟩) (by assumption) ?_
        case yl => (intro w hSw; (try dsimp only at hSw); have k_0 := Ext.cell hSw q0; have k_1 := Ext.cell hSw kk; have k_2 := Ext.cell hSw yy; have k_3 := Ext.cell hSw v0; have k_4 := Ext.cell hSw v1; go_simp); with_reducible rfl
        try simp only [sxA, sxB, sxC, Act.put, sxD, sxE, sxF]
        refine tkA (i := 17) (v := .bool false) rfl (fun c a w h => hpan c _ _ _ _ h) (Or.inl ⟨by rfl, ?yl⟩) (by assumption) ?_
        case yl => (intro w hSw; (try dsimp only at hSw); have k_0 := Ext.cell hSw q0; have k_1 := Ext.cell hSw kk; have k_2 := Ext.cell hSw yy; have k_3 := Ext.cell hSw v0; have k_4 := Ext.cell hSw v1; go_simp; first | done | with_reducible rfl | (simp only [decide_eq_true hy0]; done) | (simp [decide_eq_true hy0]; done))
        try simp only [sxA, sxB, sxC, Act.put, sxD, sxE, sxF]
        refine wpAnyH_done (by kernel_rfl) ?_ _
        try simp only [sxA, sxB, sxC, Act.put, sxD, sxE, sxF]
        rw [hQ2.out]
        refine ⟨rfl, ?u3_0_1, ?u3_1_1, ?u3_2_1, ?u3_3_1, ?u3_4_1, ?u3_5_1, ?u3_6_1, ?u3_7_1, ?u3_8_1, ?u3_9_1, ?u3_10_1, ?u3_11_1, ?u3_12_1, ?u3_13_1, ?eq3_1, s1⟩
        case eq3_1 => ((try simp only [sxA, sxB, sxC, Act.put, sxD, sxE, sxF]); first | done | with_reducible rfl | rfl)
       rw [hQ2.out]
       rintro e a' w5 ⟨rfl, v0_, v1_, v2_, v3_, v4_, v5_, v6_, v9_, v10_, v11_, v12_, v13_, v15_, v16_, rfl, x⟩
       clear hQ2 hpan; clear Q2
       subst hA_
       simp only [sxA, sxB, sxC, Act.put, sxD, sxE, sxF]
       have x5 := hid (hx.out.trans x)
       clear x q0 kk yy v0 v1 eS
       go_wp2_with fail
       go_roundw
       case rel => exact ⟨j + 1, by omega, by go_num, by rw [hos.out], x5⟩
       case measure => simp [intOf]; omega
     ·rw [decide_eq_false hy0, Bool.false_and, if_neg (by simp)] at hos
      go_wp2_with fail
      refine name_act (fun A_ hA_ => ?_)
      obtain ⟨Q2, hQ2⟩ : ∃ Q2 : Exit → Act → World → Prop, Q2 = fun e a' w' => e = .normal ∧ ∃ (v0_ v1_ v2_ v3_ v4_ v5_ v6_ : Value), a' = ((((((((((((((((((A_.put (some 27) (v0_)).put (some 28) (v1_)).put (some 29) (v2_)).put (some 30) (v3_)).put (some 31) (v4_)).put (some 32) (v5_)).put (some 33) (v6_)).put (some 34) (.bool false)).put (some 35) (.bool false)).put (some 36) (undef)).put (some 37) (undef)).put (some 38) (undef)).put (some 39) (undef)).put (some 40) (undef)).put (some 41) (undef)).put (some 42) (undef)).put (some 43) (undef)).put (some 44) (.bool false)) ∧ Ext w4 w' := ⟨_, rfl⟩
      have hpan : ∀ c a a' w w', Q2 (.panic c) a w → Q2 (.panic c) a' w' := by rw [hQ2]; rintro c a a' w w' ⟨h, _⟩; cases h
      replace hQ2 := hid hQ2
      refine wp_mono (Q := Q2) ?_ ?_
      ·subst hA_
       refine wp_region_held_drew (S := fun w' => Ext w4 w') (by kernel_rfl) (by repeat (with_reducible first | assumption | exact Ext.refl _ | refine Ext.drew ?_ | refine Ext.drewN ?_ _ | refine Ext.alloc ?_ _ | refine xS ?_ _ | refine xT ?_ (by assumption))) fun hHeld => ?_
       refine name_any (fun W0 hW => ?_)
       have s0 : Ext w4 W0 := by rw [hW]; exact hHeld
       clear hW hHeld
       refine tkA (i := 0) (v := ?_) rfl (fun c a w h => hpan c _ _ _ _ h) (Or.inl ⟨by rfl, ?yl⟩) (by assumption) ?_
       case yl => (intro w hSw; (try dsimp only at hSw); have k_0 := Ext.cell hSw q0; have k_1 := Ext.cell hSw kk; have k_2 := Ext.cell hSw yy; have k_3 := Ext.cell hSw v0; have k_4 := Ext.cell hSw v1; go_simp); with_reducible rfl
       try simp only [sxA, sxB, sxC, Act.put, sxD, sxE, sxF]
       refine tkA (i := 1) (v := ?_) rfl (fun c a w h => hpan c _ _ _ _ h) (Or.inl ⟨by rfl, ?yl⟩) (by assumption) ?_
       case yl => (intro w hSw; (try dsimp only at hSw); have k_0 := Ext.cell hSw q0; have k_1 := Ext.cell hSw kk; have k_2 := Ext.cell hSw yy; have k_3 := Ext.cell hSw v0; have k_4 := Ext.cell hSw v1; go_simp); with_reducible rfl
       try simp only [sxA, sxB, sxC, Act.put, sxD, sxE, sxF]
       refine tkA (i := 2) (v := ?_) rfl (fun c a w h => hpan c _ _ _ _ h) (Or.inl ⟨by rfl, ?yl⟩) (by assumption) ?_
       case yl => (intro w hSw; (try dsimp only at hSw); have k_0 := Ext.cell hSw q0; have k_1 := Ext.cell hSw kk; have k_2 := Ext.cell hSw yy; have k_3 := Ext.cell hSw v0; have k_4 := Ext.cell hSw v1; go_simp); with_reducible rfl
       try simp only [sxA, sxB, sxC, Act.put, sxD, sxE, sxF]
       refine tkA (i := 3) (v := ?_) rfl (fun c a w h => hpan c _ _ _ _ h) (Or.inl ⟨by rfl, ?yl⟩) (by assumption) ?_
       case yl => (intro w hSw; (try dsimp only at hSw); have k_0 := Ext.cell hSw q0; have k_1 := Ext.cell hSw kk; have k_2 := Ext.cell hSw yy; have k_3 := Ext.cell hSw v0; have k_4 := Ext.cell hSw v1; go_simp); with_reducible rfl
       try simp only [sxA, sxB, sxC, Act.put, sxD, sxE, sxF]
       refine tkA (i := 4) (v := ?_) rfl (fun c a w h => hpan c _ _ _ _ h) (Or.inl ⟨by rfl, ?yl⟩) (by assumption) ?_
       case yl => (intro w hSw; (try dsimp only at hSw); have k_0 := Ext.cell hSw q0; have k_1 := Ext.cell hSw kk; have k_2 := Ext.cell hSw yy; have k_3 := Ext.cell hSw v0; have k_4 := Ext.cell hSw v1; go_simp); with_reducible rfl
       try simp only [sxA, sxB, sxC, Act.put, sxD, sxE, sxF]
       refine tkA (i := 5) (v := ?_) rfl (fun c a w h => hpan c _ _ _ _ h) (Or.inl ⟨by rfl, ?yl⟩) (by assumption) ?_
       case yl => (intro w hSw; (try dsimp only at hSw); have k_0 := Ext.cell hSw q0; have k_1 := Ext.cell hSw kk; have k_2 := Ext.cell hSw yy; have k_3 := Ext.cell hSw v0; have k_4 := Ext.cell hSw v1; go_simp); with_reducible rfl
       try simp only [sxA, sxB, sxC, Act.put, sxD, sxE, sxF]
       refine tkA (i := 6) (v := ?_) rfl (fun c a w h => hpan c _ _ _ _ h) (Or.inl ⟨by rfl, ?yl⟩) (by assumption) ?_
       case yl => (intro w hSw; (try dsimp only at hSw); have k_0 := Ext.cell hSw q0; have k_1 := Ext.cell hSw kk; have k_2 := Ext.cell hSw yy; have k_3 := Ext.cell hSw v0; have k_4 := Ext.cell hSw v1; go_simp); with_reducible rfl
       try simp only [sxA, sxB, sxC, Act.put, sxD, sxE, sxF]
       refine tkA (i := 7) (v := .bool false) rfl (fun c a w h => hpan c _ _ _ _ h) (Or.inl ⟨by rfl, ?yl⟩) (by assumption) ?_
       case yl => (intro w hSw; (try dsimp only at hSw); have k_0 := Ext.cell hSw q0; have k_1 := Ext.cell hSw kk; have k_2 := Ext.cell hSw yy; have k_3 := Ext.cell hSw v0; have k_4 := Ext.cell hSw v1; go_simp; first | done | with_reducible rfl | (simp only [decide_eq_false hy0]; done) | (simp [decide_eq_false hy0]; done))
       try simp only [sxA, sxB, sxC, Act.put, sxD, sxE, sxF]
       refine tkA (i := 8) (v := .bool false) rfl (fun c a w h => hpan c _ _ _ _ h) (Or.inl ⟨by rfl, ?yl⟩) (by assumption) ?_
       case yl => (intro w hSw; (try dsimp only at hSw); have k_0 := Ext.cell hSw q0; have k_1 := Ext.cell hSw kk; have k_2 := Ext.cell hSw yy; have k_3 := Ext.cell hSw v0; have k_4 := Ext.cell hSw v1; go_simp; first | done | with_reducible rfl | (simp only [decide_eq_false hy0]; done) | (simp [decide_eq_false hy0]; done))
       try simp only [sxA, sxB, sxC, Act.put, sxD, sxE, sxF]
       refine tkA (i := 9) (v := undef) rfl (fun c a w h => hpan c _ _ _ _ h) (Or.inr ⟨by kernel_rfl, rfl⟩) (by assumption) ?_
       try simp only [sxA, sxB, sxC, Act.put, sxD, sxE, sxF]
       refine tkA (i := 10) (v := undef) rfl (fun c a w h => hpan c _ _ _ _ h) (Or.inr ⟨by kernel_rfl, rfl⟩) (by assumption) ?_
       try simp only [sxA, sxB, sxC, Act.put, sxD, sxE, sxF]
       refine tkA (i := 11) (v := undef) rfl (fun c a w h => hpan c _ _ _ _ h) (Or.inr ⟨by kernel_rfl, rfl⟩) (by assumption) ?_
       try simp only [sxA, sxB, sxC, Act.put, sxD, sxE, sxF]
       refine tkA (i := 12) (v := undef) rfl (fun c a w h => hpan c _ _ _ _ h) (Or.inr ⟨by kernel_rfl, rfl⟩) (by assumption) ?_
       try simp only [sxA, sxB, sxC, Act.put, sxD, sxE, sxF]
       refine tkA (i := 13) (v := undef) rfl (fun c a w h => hpan c _ _ _ _ h) (Or.inr ⟨by kernel_rfl, rfl⟩) (by assumption) ?_
       try simp only [sxA, sxB, sxC, Act.put, sxD, sxE, sxF]
       refine tkA (i := 14) (v := undef) rfl (fun c a w h => hpan c _ _ _ _ h) (Or.inr ⟨by kernel_rfl, rfl⟩) (by assumption) ?_
       try simp only [sxA, sxB, sxC, Act.put, sxD, sxE, sxF]
       refine tkA (i := 15) (v := undef) rfl (fun c a w h => hpan c _ _ _ _ h) (Or.inr ⟨by kernel_rfl, rfl⟩) (by assumption) ?_
       try simp only [sxA, sxB, sxC, Act.put, sxD, sxE, sxF]
       refine tkA (i := 16) (v := undef) rfl (fun c a w h => hpan c _ _ _ _ h) (Or.inr ⟨by kernel_rfl, rfl⟩) (by assumption) ?_
       try simp only [sxA, sxB, sxC, Act.put, sxD, sxE, sxF]
       refine tkA (i := 17) (v := .bool false) rfl (fun c a w h => hpan c _ _ _ _ h) (Or.inl ⟨by rfl, ?yl⟩) (by assumption) ?_
       case yl => (intro w hSw; (try dsimp only at hSw); have k_0 := Ext.cell hSw q0; have k_1 := Ext.cell hSw kk; have k_2 := Ext.cell hSw yy; have k_3 := Ext.cell hSw v0; have k_4 := Ext.cell hSw v1; go_simp; first | done | with_reducible rfl | (simp only [decide_eq_false hy0]; done) | (simp [decide_eq_false hy0]; done))
       try simp only [sxA, sxB, sxC, Act.put, sxD, sxE, sxF]
       refine wpAnyH_done (by kernel_rfl) ?_ _
       try simp only [sxA, sxB, sxC, Act.put, sxD, sxE, sxF]
       rw [hQ2.out]
       refine ⟨rfl, ?u4_0_1, ?u4_1_1, ?u4_2_1, ?u4_3_1, ?u4_4_1, ?u4_5_1, ?u4_6_1, ?eq4_1, s0⟩
       case eq4_1 => ((try simp only [sxA, sxB, sxC, Act.put, sxD, sxE, sxF]); first | done | with_reducible rfl | rfl)
      rw [hQ2.out]
      rintro e a' w5 ⟨rfl, v0_, v1_, v2_, v3_, v4_, v5_, v6_, rfl, x⟩
      clear hQ2 hpan; clear Q2
      subst hA_
      simp only [sxA, sxB, sxC, Act.put, sxD, sxE, sxF]
      have x5 := hid (hx.out.trans x)
      clear x q0 kk yy v0 v1
      go_wp2_with fail
      go_roundw
      case rel => exact ⟨j + 1, by omega, by go_num, by rw [hos.out], x5⟩
      case measure => simp [intOf]; omega
    ·have hjm : j = m := by omega
     have hnl : ¬ (j : Int) < (m : Int) := by omega
     have u2 := Go.IntWalk.i64_in ((k : Int) + 1) (by omega)
     have hoe : Hid (O j = U (k + 1)) := hid (by rw [hjm]; exact hOe.out)
     clear hjm
     go_wp2_with fail
     go_roundw
     case rel => exact ⟨k + 1, by omega, by go_num, by rw [hoe.out], hx⟩
     case measure => simp [intOf]; omega
  ·have hkn : k = N := by omega
   have hnl : ¬ (k : Int) < (N : Int) := by omega
   have hX3 := hid (X2.out.trans hx.out)
   rw [hkn, hue.out]
   clear hkn
   go_wp2_with fail
   refine (hli.out _).mono ?_; rintro e w5 ⟨aa, cc, rfl, hI, hE⟩
   go_wp2_with fail
   go_ret
   exact ⟨aa, cc, rfl, hI, by have := hX3.out; exact (by repeat (with_reducible first | assumption | exact Ext.refl _ | refine Ext.drew ?_ | refine Ext.drewN ?_ _ | refine Ext.alloc ?_ _ | refine xS ?_ _ | refine xT ?_ (by assumption)))⟩

end Go.Proofs.Ytommhgcgaclflaa
namespace Go.Proofs.Ytommhgcgaclflaa
set_option linter.unusedVariables false
set_option linter.unusedSimpArgs false
set_option linter.unusedSectionVars false
set_option linter.unnecessarySimpa false
open Go Go.RowKit Game
set_option maxRecDepth 100000

set_option maxHeartbeats 2000000 in
theorem usedR_any (t : List (List Int)) (q : FitT t) (a : Option Addr) (cap : Nat) (w : World) (hT : Tab w a t) (hl : t.length ≤ 1000) (hw : ∀ i, (row t i).length ≤ 1000) :
 Calls Try.prog 37 #[(.agg #[.slice a t.length cap])] w (RetL2 (usedR t) (usedC t) (chkT t) w) := by
 have hT' := hid hT
 have hw' := hid hw
 have hop := hid (fun W hW => checkTableR_any t q a cap W hW hl hw'.out)
 clear hT hw hl
 by_cases g : chkT t = 0
 case neg =>
  have e2 : Hid (usedR t = [] ∧ usedC t = []) := hid (by unfold usedR usedC; rw [if_neg g, if_neg g]; exact ⟨rfl, rfl⟩)
  have g1 : (chkT t != 0) = true := by simpa using g
  clear g
  go_enter Try.func37, Try.ntmps37
  go_wp2_with fail
  refine (hop.out _ (hT'.out.ext (by repeat (with_reducible first | assumption | exact Ext.refl _ | refine Ext.drew ?_ | refine Ext.drewN ?_ _ | refine Ext.alloc ?_ _ | refine xS ?_ _ | refine xT ?_ (by assumption))))).mono ?_; rintro e w1 ⟨rfl, hE⟩
  have c0 := hE.cell (p := ⟨w.heap.size, 0, none⟩) (v := .slice a t.length cap) (by simp [go_sem])
  go_wp2_with fail
  refine (hop.out _ (hT'.out.ext (by repeat (with_reducible first | assumption | exact Ext.refl _ | refine Ext.drew ?_ | refine Ext.drewN ?_ _ | refine Ext.alloc ?_ _ | refine xS ?_ _ | refine xT ?_ (by assumption))))).mono ?_; rintro e w2 ⟨rfl, hE2⟩
  go_wp2_with fail
  go_ret3
  exact ⟨none, 0, none, 0, by rw [e2.out.1, e2.out.2]; rfl, by rw [e2.out.1]; exact Ints.nil _ _, by rw [e2.out.2]; exact Ints.nil _ _, (by repeat (with_reducible first | assumption | exact Ext.refl _ | refine Ext.drew ?_ | refine Ext.drewN ?_ _ | refine Ext.alloc ?_ _ | refine xS ?_ _ | refine xT ?_ (by assumption)))⟩
 case pos =>
  have v := chkT_ok.1 g
  have v2 := turn_vld v
  have hu1 := hid (fun W h => usedOfR_any t v a cap W h)
  have htu := hid (fun W h => turnedR_any t v a cap W h)
  have hu2 := hid (fun a2 c2 W h => usedOfR_any (turn t) v2 a2 c2 W h)
  have e2 : Hid (usedR t = bitsTo (usedB t) 4 ∧ usedC t = bitsTo (usedB (turn t)) 4) := hid (by unfold usedR usedC; rw [if_pos g, if_pos g]; exact ⟨rfl, rfl⟩)
  replace g := hid g
  rw [g.out] at hop ⊢
  rw [e2.out.1, e2.out.2]
  obtain ⟨l1, hl1⟩ : ∃ l, bitsTo (usedB t) 4 = l := ⟨_, rfl⟩
  obtain ⟨l2, hl2⟩ : ∃ l, bitsTo (usedB (turn t)) 4 = l := ⟨_, rfl⟩
  rw [hl1] at hu1 ⊢
  rw [hl2] at hu2 ⊢
  clear v v2 e2 hl1 hl2
  go_enter Try.func37, Try.ntmps37
  go_wp2_with fail
  refine (hop.out _ (hT'.out.ext (by repeat (with_reducible first | assumption | exact Ext.refl _ | refine Ext.drew ?_ | refine Ext.drewN ?_ _ | refine Ext.alloc ?_ _ | refine xS ?_ _ | refine xT ?_ (by assumption))))).mono ?_; rintro e w1 ⟨rfl, hE⟩
  have c0 := hE.cell (p := ⟨w.heap.size, 0, none⟩) (v := .slice a t.length cap) (by simp [go_sem])
  have X := hid (show Ext w w1 from (by repeat (with_reducible first | assumption | exact Ext.refl _ | refine Ext.drew ?_ | refine Ext.drewN ?_ _ | refine Ext.alloc ?_ _ | refine xS ?_ _ | refine xT ?_ (by assumption))))
  clear hE
  go_wp2_with fail
  refine name_act (fun A_ hA_ => ?_)
  obtain ⟨Q2, hQ2⟩ : ∃ Q2 : Exit → Act → World → Prop, Q2 = fun e a' w' => e = .normal ∧ ∃ (a1 : Option Addr) (c1 : Nat) (ta : Option Addr) (tc : Nat) (a2 : Option Addr) (c2 : Nat) (v0_ v2_ : Value), a' = ((((((((A_.put (some 10) (v0_)).put (some 11) (.slice a1 l1.length c1)).put (some 12) (v2_)).put (some 13) (.agg #[.slice ta (turn t).length tc])).put (some 14) (.slice a2 l2.length c2)).put (some 2) (.slice a1 l1.length c1)).put (some 3) (.slice a2 l2.length c2)).put (some 4) (.int .i64 0)) ∧ Ext w1 w' ∧ Ints w' a1 l1 ∧ Tab w' ta (turn t) ∧ Ints w' a2 l2 := ⟨_, rfl⟩
  have hpan : ∀ c a a' w w', Q2 (.panic c) a w → Q2 (.panic c) a' w' := by rw [hQ2]; rintro c a a' w w' ⟨h, _⟩; cases h
  replace hQ2 := hid hQ2
  refine wp_mono (Q := Q2) ?_ ?_
  ·subst hA_
   refine wp_region_held_drew (S := fun w' => Ext w1 w') (by kernel_rfl) (by repeat (with_reducible first | assumption | exact Ext.refl _ | refine Ext.drew ?_ | refine Ext.drewN ?_ _ | refine Ext.alloc ?_ _ | refine xS ?_ _ | refine xT ?_ (by assumption))) fun hHeld => ?_
   refine name_any (fun W0 hW => ?_)
   have s0 : Ext w1 W0 := by rw [hW]; exact hHeld
   clear hW hHeld
   refine tkA (i := 0) (v := ?_) rfl (fun c a w h => hpan c _ _ _ _ h) (Or.inl ⟨by rfl, ?yl⟩) (by assumption) ?_
   case yl => (intro w hSw; (try dsimp only at hSw); have k_0 := Ext.cell hSw c0; go_simp); with_reducible rfl
   try simp only [sxA, sxB, sxC, Act.put, sxD, sxE, sxF]
   refine tkA (i := 2) (v := ?_) rfl (fun c a w h => hpan c _ _ _ _ h) (Or.inl ⟨by rfl, ?yl⟩) (by assumption) ?_
   case yl => (intro w hSw; (try dsimp only at hSw); have k_0 := Ext.cell hSw c0; go_simp); with_reducible rfl
   try simp only [sxA, sxB, sxC, Act.put, sxD, sxE, sxF]
   refine wpAnyH_ready (rs := [1]) (by kernel_rfl) (by simp) ?_
   refine AllReadyH.cons (o := _) rfl (fun K hK => ?_) AllReadyH.nil
   go_simp
   refine (hu1.out _ (hT'.out.ext (X.out.trans s0))).mono ?_; rintro e W1 ⟨a1, c1, rfl, hI_, e1⟩
   have s1 := s0.trans e1
   have hI := hid hI_; clear hI_
   refine hK.out _ _ s1 (fun _ => ?_)
   clear hK K
   (try simp only [sxA, sxB, sxC, Act.put, sxD, sxE, sxF])
   refine wpAnyH_ready (rs := [3]) (by kernel_rfl) (by simp) ?_
   refine AllReadyH.cons (o := _) rfl (fun K hK => ?_) AllReadyH.nil
   go_simp
   refine (htu.out _ (hT'.out.ext (X.out.trans s1))).mono ?_; rintro e W2 ⟨ta, tc, rfl, hTt_, e2⟩
   have s2 := s1.trans e2
   have hTt := hid hTt_; clear hTt_
   refine hK.out _ _ s2 (fun _ => ?_)
   clear hK K
   (try simp only [sxA, sxB, sxC, Act.put, sxD, sxE, sxF])
   refine wpAnyH_ready (rs := [4]) (by kernel_rfl) (by simp) ?_
   refine AllReadyH.cons (o := _) rfl (fun K hK => ?_) AllReadyH.nil
   go_simp
   refine (hu2.out _ _ _ hTt.out).mono ?_; rintro e W3 ⟨a2, c2, rfl, hJ_, e3⟩
   have s3 := s2.trans e3
   have hJ := hid hJ_; clear hJ_
   refine hK.out _ _ s3 (fun _ => ?_)
   clear hK K
   (try simp only [sxA, sxB, sxC, Act.put, sxD, sxE, sxF])
   refine tkA (i := 5) (v := ?_) rfl (fun c a w h => hpan c _ _ _ _ h) (Or.inl ⟨by rfl, ?yl⟩) (by assumption) ?_
   case yl => (intro w hSw; (try dsimp only at hSw); have k_0 := Ext.cell hSw c0; go_simp); with_reducible rfl
   try simp only [sxA, sxB, sxC, Act.put, sxD, sxE, sxF]
   refine tkA (i := 6) (v := ?_) rfl (fun c a w h => hpan c _ _ _ _ h) (Or.inl ⟨by rfl, ?yl⟩) (by assumption) ?_
   case yl => (intro w hSw; (try dsimp only at hSw); have k_0 := Ext.cell hSw c0; go_simp); with_reducible rfl
   try simp only [sxA, sxB, sxC, Act.put, sxD, sxE, sxF]
   refine tkA (i := 7) (v := ?_) rfl (fun c a w h => hpan c _ _ _ _ h) (Or.inl ⟨by rfl, ?yl⟩) (by assumption) ?_
   case yl => (intro w hSw; (try dsimp only at hSw); have k_0 := Ext.cell hSw c0; go_simp); with_reducible rfl
   try simp only [sxA, sxB, sxC, Act.put, sxD, sxE, sxF]
   refine wpAnyH_done (by kernel_rfl) ?_ _
   try simp only [sxA, sxB, sxC, Act.put, sxD, sxE, sxF]
   rw [hQ2.out]
   refine ⟨rfl, a1, c1, ta, tc, a2, c2, ?u1_0_1, ?u1_1_1, ?eq1_1, s3, (hI.out.ext (((Ext.refl W1).trans e2).trans e3)), (hTt.out.ext ((Ext.refl W2).trans e3)), (hJ.out.ext (Ext.refl W3))⟩
   case eq1_1 => ((try simp only [sxA, sxB, sxC, Act.put, sxD, sxE, sxF]); first | done | with_reducible rfl | rfl)
  rw [hQ2.out]
  rintro e a' w2 ⟨rfl, a1, c1, ta, tc, a2, c2, v0_, v2_, rfl, x, hI, hTt, hJ⟩
  clear hQ2 hpan; clear Q2
  subst hA_
  simp only [sxA, sxB, sxC, Act.put, sxD, sxE, sxF]
  go_wp2_with fail
  go_ret3
  exact ⟨a1, c1, a2, c2, rfl, hI, hJ, X.out.trans x⟩

end Go.Proofs.Ytommhgcgaclflaa
