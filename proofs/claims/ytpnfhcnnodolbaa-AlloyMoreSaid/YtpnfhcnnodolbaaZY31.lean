/- Texts of one proof, laid together: Qc, Wf, Wg, Wl, Wha, Whb, Whc, Whd, Whe, Whh. -/
import Derived.Test.YtpnfhcnnodolbaaZY10
import Derived.Test.YtpnfhcnnodolbaaZY29
import Derived.Test.YtpnfhcnnodolbaaZY28
import Derived.Test.YtpnfhcnnodolbaaZY27
import Derived.Test.YtpnfhcnnodolbaaZY21
import Derived.Test.YtpnfhcnnodolbaaZY30
import Derived.Test.YtpnfhcnnodolbaaZY19
set_option linter.unusedVariables false
set_option linter.unusedSimpArgs false
set_option linter.unusedSectionVars false
set_option linter.unnecessarySimpa false
set_option maxRecDepth 100000
namespace Go.Proofs.Ytpnfhcnnodolbaa
open Go Go.RowKit Game
attribute [local go_sem] Oper.semAt_some
def prL (l : List Met) (s : Bool) : PL := (P1 l s (l.length + 2)).filter fun p => gdP l s p.1
def mtP (l : List Met) (u c : Int) (s : Bool) (x : List Int) : Bool := decide (ratN (valU u c x) (nth x 0) = csN l (chpL l u c s) ∧ ratD (valU u c x) (nth x 0) = csD l (chpL l u c s))
def prF (l : List Met) (u c : Int) (s : Bool) : Option (List Int) := ((prL l s).map Prod.fst).find? (mtP l u c s)
def proX (l : List Met) (u c : Int) (s : Bool) : List Int := if cheE l u c s = 0 then (prF l u c s).getD [0, 0, 0, 0] else [0, 0, 0, 0]
def proEr (l : List Met) (u c : Int) (s : Bool) : Int := if cheE l u c s = 0 then (if (prF l u c s).isSome then 0 else 17) else cheE l u c s
def GP (x : List Int) : Prop := BdK x ∧ 1 ≤ nth x 0
theorem stP_gp {l : List Met} (v : VldM l) (s : Bool) (i k j : Nat) {L : PL} (h : PutL GP L) : PutL GP (stP l s i k j L) := by
 unfold stP
 by_cases g : dN l s i k j = 0
 ·rw [if_pos g]; exact h
 ·rw [if_neg g]
  refine h.put ⟨(cnQ_ok v s i k j).2, ?_⟩
  unfold cnQ
  split <;> simp [nth] <;> omega
theorem P3_gp {l : List Met} (v : VldM l) (s : Bool) (i k : Nat) : ∀ (j : Nat) {L : PL}, PutL GP L → PutL GP (P3 l s i k j L)
 | 0, _, h => h
 | j + 1, _, h => stP_gp v s i k j (P3_gp v s i k j h)
theorem P2_gp {l : List Met} (v : VldM l) (s : Bool) (i : Nat) : ∀ (k : Nat) {L : PL}, PutL GP L → PutL GP (P2 l s i k L)
 | 0, _, h => h
 | k + 1, _, h => P3_gp v s i k k (P2_gp v s i k h)
theorem P1_gp {l : List Met} (v : VldM l) (s : Bool) : ∀ i, PutL GP (P1 l s i)
 | 0 => PutL.nil _
 | i + 1 => P2_gp v s i i (P1_gp v s i)
theorem prL_gp {l : List Met} (v : VldM l) (s : Bool) {x : List Int} (h : x ∈ (prL l s).map Prod.fst) : GP x := by
 obtain ⟨p, hp, rfl⟩ := List.mem_map.1 h
 exact (P1_gp v s _).good p (List.mem_filter.1 hp).1
theorem prL_len {l : List Met} (v : VldM l) (s : Bool) : (prL l s).length ≤ 100000 := by
 have h3 : ∀ (i k j : Nat) (L : PL), (P3 l s i k j L).length ≤ L.length + j := fun i k j => by
  induction j with
  | zero => intro L; simp [P3]
  | succ j ih =>
   intro L
   have := ih L
   simp only [P3, stP]
   split
   ·omega
   ·have := putP_len (P3 l s i k j L) (cnQ l s i k j); omega
 have h2 : ∀ (i k : Nat) (L : PL), k ≤ 100 → (P2 l s i k L).length ≤ L.length + 100 * k := fun i k => by
  induction k with
  | zero => intro L _; simp [P2]
  | succ k ih => intro L hk; have := ih L (by omega); have := h3 i k k (P2 l s i k L); simp only [P2]; omega
 have h1 : ∀ i, i ≤ 8 → (P1 l s i).length ≤ 1000 * i := fun i => by
  induction i with
  | zero => intro _; simp [P1]
  | succ i ih => intro hi; have := ih (by omega); have := h2 i i (P1 l s i) (by omega); simp only [P1]; omega
 have := h1 (l.length + 2) (by have := v.n6; omega)
 have := v.n6
 have := List.length_filter_le (fun p => gdP l s p.1) (P1 l s (l.length + 2))
 unfold prL
 omega
theorem find_pre {α : Type} {f : α → Bool} {L pre : List α} {x : α} (h : pre ++ [x] <+: L) (h0 : ∀ y ∈ pre, f y = false) (h1 : f x = true) : L.find? f = some x := by
 obtain ⟨t, rfl⟩ := h
 rw [List.append_assoc, List.find?_append, List.find?_eq_none.2 (fun y hy => by rw [h0 y hy]; decide)]
 simp [h1]
theorem find_no {α : Type} {f : α → Bool} {L : List α} (h0 : ∀ y ∈ L, f y = false) : L.find? f = none := List.find?_eq_none.2 (fun y hy => by rw [h0 y hy]; decide)
theorem valU_bd {u c : Int} (hu : 0 ≤ u ∧ u ≤ 1000) (hc : 0 ≤ c ∧ c ≤ 1000) {x : List Int} (h : BdK x) : -1000000000000000 ≤ valU u c x ∧ valU u c x ≤ 1000000000000000 := by
 obtain ⟨_, h1, h2, h3⟩ := h
 have y1 := mulQ_bd h2 hu
 have y2 := mulQ_bd h3 hc
 unfold valU
 omega
set_option maxHeartbeats 4000000 in
theorem proof_any (l : List Met) (q : FitM l) (hl : l.length ≤ 1000) (a : Option Addr) (cap : Nat) (u c : Int) (iu : I64 u) (ic : I64 c) (s : Bool) (w : World) (hM : Mts w a l) :
 Calls Try.prog 35 #[.slice a l.length cap, (.agg #[.int .i64 (u), .int .i64 (c)]), .bool s] w fun e w' => e = .returned (kv5 (proX l u c s) (proEr l u c s)) ∧ Ext w w' := by
 have ho := hid (fun W (x : Ext w W) => cheapest_any l q hl a cap u c iu ic s W (hM.ext x))
 have hX : Hid (proX l u c s = if cheE l u c s = 0 then (prF l u c s).getD [0, 0, 0, 0] else [0, 0, 0, 0]) := hid rfl
 have hEr : Hid (proEr l u c s = if cheE l u c s = 0 then (if (prF l u c s).isSome then 0 else 17) else cheE l u c s) := hid rfl
 clear q hM
 refine (callsIn_wide (n := 9)).1 ?_
 refine callsIn_of_wp_marks Try.func35 rfl trivial ?_ rfl
 simp only [Try.ntmps35, List.size_toArray, List.length_cons, List.length_nil, Nat.reduceAdd, Nat.reduceSub, Array.replicate_succ, Array.replicate_zero, List.push_toArray, List.append_toArray, List.nil_append, List.cons_append]
 gi_wp2_with fail
 refine name_c2 (fun w0 hw0 => ?_)
 have x0 := hid (show Ext w w0 by rw [hw0]; exact exE)
 have rb := hid (show Bx5 w0 (w.heap.size + 1) (w.heap.size + 2) [0, 0, 0, 0] 0 from ⟨by rw [hw0]; simp [go_sem]; rfl, by rw [hw0]; simp [go_sem]; rfl, by rw [hw0]; simp [go_sem]; rfl, by rw [hw0]; simp [go_sem]; rfl, by rw [hw0]; simp [go_sem], by rw [hw0]; simp [go_sem], by rw [hw0]; simp [go_sem], by rw [hw0]; simp [go_sem], by rw [hw0]; simp [go_sem], by rw [hw0]; simp [go_sem]⟩)
 clear hw0
 refine ⟨trivial, (callsIn_wide.2 (ho.out _ x0.out)).mono ?_⟩
 rintro e w1 (⟨hch, rfl, hE⟩ | ⟨⟨hch, gB, gL⟩, D, ai, ci, rfl, hP, hI, hE⟩)
 ·have X1 := hid (x0.out.trans hE)
  have rb := rb.out.ext hE
  obtain ⟨c0, c1, c2, c3, c4, f0, f1, f2, f3, f4⟩ := rb
  have z0 := cell_lt c0
  have z4 := cell_lt c4
  have g1 : (cheE l u c s != 0) = true := by simpa using hch
  rw [if_neg hch] at hX hEr
  replace hch := hid hch
  clear hE ho
  gi_wp2_with fail
  exact ⟨kv5 [0, 0, 0, 0] (cheE l u c s), by simp [results, Try.results35, go_sem, kv5, kv, nth, *], by rw [hX.out, hEr.out], by have := X1.out; exact exE⟩
 have hv := hid (chkB_ok gB)
 have okx := (edP_ok hv.out.1 hv.out.2.1 hv.out.2.2 (chp_mem gL)).1
 rw [if_pos hch] at hX hEr
 have X1 := hid (x0.out.trans hE)
 have rb := hid (rb.out.ext hE)
 have l1 := hid (show w.heap.size + 2 < w1.heap.size from cell_lt rb.out.c4)
 have hco := hid (fun W (hx : Ext w1 W) => by have := costP_any l hv.out.1 u c s (chpL l u c s) okx.prt okx.len okx.pos D ai ci W (hP.ext hx) (hI.ext hx); rw [okx.len] at this; exact this)
 change Hid (∀ W, Ext w1 W → Calls Try.prog 58 #[(.pointer (some ⟨D, 0, none⟩)), .slice ai l.length ci] W fun e w' => e = .returned (.agg #[.int .i64 (csN l (chpL l u c s)), .int .i64 (csD l (chpL l u c s))]) ∧ Ext W w') at hco
 have hP := hid hP
 have hgp := hid (fun x hx => prL_gp hv.out.1 s (x := x) hx)
 have hmt : Hid (∀ x, mtP l u c s x = decide (ratN (valU u c x) (nth x 0) = csN l (chpL l u c s) ∧ ratD (valU u c x) (nth x 0) = csD l (chpL l u c s))) := hid fun _ => rfl
 have hF : Hid (prF l u c s = ((prL l s).map Prod.fst).find? (mtP l u c s)) := hid rfl
 have hvb := hid (fun (x : List Int) (h : BdK x) => valU_bd hv.out.2.1 hv.out.2.2 h)
 have hva := hid (fun (x : List Int) (h : BdK x) W (hx : Ext w1 W) => value_any l u c hv.out.2.1 hv.out.2.2 s D (nth x 0) (nth x 1) (nth x 2) (nth x 3) h.2 W (hP.out.ext hx))
 obtain ⟨CN, hCN⟩ : ∃ z, csN l (chpL l u c s) = z := ⟨_, rfl⟩
 obtain ⟨CD, hCD⟩ : ∃ z, csD l (chpL l u c s) = z := ⟨_, rfl⟩
 rw [hCN, hCD] at hco hmt
 obtain ⟨MT, hMT⟩ : ∃ f, mtP l u c s = f := ⟨_, rfl⟩
 rw [hMT] at hmt hF
 have hpr := hid (fun W (x : Ext w1 W) => proofs_any l hv.out.1 u c s D W (hP.out.ext x))
 change Hid (∀ W, Ext w1 W → Calls Try.prog 78 #[(.pointer (some ⟨D, 0, none⟩))] W (RetMap (prL l s) W)) at hpr
 have hM : Hid (Asc (prL l s)) := hid ((P1_ok hv.out.1 s _).asc _)
 have hM9 : Hid ((prL l s).length ≤ 100000) := hid (prL_len hv.out.1 s)
 obtain ⟨M, hMe⟩ : ∃ M, prL l s = M := ⟨_, rfl⟩
 rw [hMe] at hpr hM hM9 hgp hF
 clear hE ho hMe hch hCN hCD hMT okx gB gL hI
 gi_wp2_with fail
 refine ⟨trivial, (callsIn_wide.2 (hco.out _ exE)).mono ?_⟩
 rintro e w2 ⟨rfl, hE2⟩
 have x12 : Ext w1 w2 := exE
 have p8 := hid (hE2.cell (p := ⟨w1.heap.size, 0, none⟩) (v := (.pointer (some ⟨D, 0, none⟩))) (by simp [go_sem]))
 have X2 := hid (X1.out.trans x12)
 have rb := hid (rb.out.ext x12)
 have l2 := hid (Nat.lt_of_lt_of_le l1.out x12.size)
 have l8 := cell_lt p8.out
 dsimp only at l8
 replace x12 := hid x12
 have p8o := p8.out
 clear hE2 hco
 gi_wp2_with fail
 refine ⟨trivial, (callsIn_wide.2 (hpr.out _ (by have := x12.out; exact exE))).mono ?_⟩
 rintro e w3 ⟨bx, b, cc, mo, k, rfl, hof, hTm, hkM, hE3⟩
 have x23 : Ext w2 w3 := exE
 have q0 := hid (hE3.cell (p := ⟨w2.heap.size, 0, none⟩) (v := .int .i64 CN) (by simp [go_sem]))
 have q1 := hid (hE3.cell (p := ⟨w2.heap.size, 1, none⟩) (v := .int .i64 CD) (by simp [go_sem]))
 have X3 := hid (X2.out.trans x23)
 have rb := hid (rb.out.ext x23)
 have l3 := hid (Nat.lt_of_lt_of_le l2.out x23.size)
 have hof := hid hof
 have p8 := hid (x23.cell p8.out)
 have hx13 := hid (x12.out.trans x23)
 obtain ⟨B8, hB8⟩ : ∃ B, w1.heap.size = B := ⟨_, rfl⟩
 obtain ⟨B11, hB11⟩ : ∃ B, w2.heap.size = B := ⟨_, rfl⟩
 rw [hB8] at p8 ⊢
 rw [hB11] at q0 q1 ⊢
 replace hB8 := hid hB8
 replace hB11 := hid hB11
 clear hE3 hpr x23 l8 p8o
 gi_wp2_with fail
 have hk0 : KN w3.heap.size w3 w3 := KN.refl _ _
 refine range_yieldsZ (F := Fence.wide) (n := 9) rfl (by omega) (gf := 108) (lb := #[(.pointer (some ⟨bx, 0, none⟩))]) rfl trivial (enters_of Try.func108 (by kernel_rfl) rfl)
  (ordered1_yields b cc bx mo k M hkM hM.out hM9.out hTm 8) (fun _ => rfl) (fun pre Z W => (∀ y ∈ pre, MT y = false) ∧ (∀ k, ¬ Z k) ∧ KN w3.heap.size w3 W)
  (fun c pre W => c = .ret ∧ ∃ pre' x, pre = pre' ++ [x] ∧ (∀ y ∈ pre', MT y = false) ∧ MT x = true ∧ pre <+: M.map Prod.fst ∧ Bx5 W (w.heap.size + 1) (w.heap.size + 2) x 0 ∧ Ext w W) ?st ?nd ?zz ?stx ⟨fun y hy => by simp at hy, fun _ h => h, hk0⟩ ?round ?done ?stop
 case st => exact fun pre Z A C h k => ⟨h.1, h.2.1, h.2.2.trans k⟩
 case nd => exact fun pre Z A h => ⟨h.2.2.same _ _ hof.out.m (.inl (lt_of_heap hof.out.m)), h.2.2.cell hof.out.c⟩
 case zz => exact fun pre Z A h k hz => (h.2.1 k hz).elim
 case stx => exact fun c pre A C h k => ⟨h.1, let ⟨pre', x, h1, h2, h3, h4, h5, h6⟩ := h.2; ⟨pre', x, h1, h2, h3, h4, h5.kn k, k.ext h6 X3.out.size⟩⟩
 case round =>
  rintro l2 pre Z x Wr hG ⟨hpre, hZ, hk⟩ hl2 ⟨rr, hLp⟩ hsz
  subst hl2
  simp only [encP, kv]
  have hG : Hid (pre ++ [x] <+: M.map Prod.fst) := hid hG
  have hLp := hid hLp
  have hkk := hid hk
  have hpre := hid hpre
  have hZ := hid hZ
  clear hk
  gi_wp2_with fail
  refine ⟨KZ.of_ext exE, fun o => ?_⟩
  obtain ⟨Wa, hWa⟩ : ∃ Wa, Wa = Wr.alloc (.cells #[.int .i64 (nth x 0), .int .i64 (nth x 1), .int .i64 (nth x 2), .int .i64 (nth x 3)] 45) := ⟨_, rfl⟩
  have xa : Ext Wr Wa := by rw [hWa]; exact exE
  have za : Wa.heap.size = Wr.heap.size + 1 := by rw [hWa]; simp
  have d0 : Wa.cell? ⟨Wr.heap.size, 0, none⟩ = some (.int .i64 (nth x 0)) := by rw [hWa]; simp [go_sem]
  have d1 : Wa.cell? ⟨Wr.heap.size, 1, none⟩ = some (.int .i64 (nth x 1)) := by rw [hWa]; simp [go_sem]
  have d2 : Wa.cell? ⟨Wr.heap.size, 2, none⟩ = some (.int .i64 (nth x 2)) := by rw [hWa]; simp [go_sem]
  have d3 : Wa.cell? ⟨Wr.heap.size, 3, none⟩ = some (.int .i64 (nth x 3)) := by rw [hWa]; simp [go_sem]
  obtain ⟨Wb, hWb⟩ : ∃ Wb, Wb = Wa.putObj (w3.heap.size + 1) o := ⟨_, rfl⟩
  have kn : KN w3.heap.size Wa Wb := by rw [hWb]; exact KN.put _ (by omega) (fun o ho => by rw [xa.heap hLp.out] at ho; cases ho; rfl)
  rw [← hWa, ← hWb]
  replace d0 := kn.cell d0
  replace d1 := kn.cell d1
  replace d2 := kn.cell d2
  replace d3 := kn.cell d3
  have kb : KN w3.heap.size w3 Wb := (hkk.out.trans (.of_ext xa)).trans kn
  have rbb := hid (rb.out.kn kb)
  have p8 := kb.cell p8.out
  have q0 := kb.cell q0.out
  have q1 := kb.cell q1.out
  have xb := hid (kb.ext X3.out X3.out.size)
  have x1b := hid (kb.ext hx13.out hx13.out.size)
  have lb := hid (Nat.lt_of_lt_of_le l3.out kb.size)
  have hl2 := hid (show w.heap.size + 2 < w3.heap.size from l3.out)
  have hne : w.heap.size + 2 < Wr.heap.size := by have := l3.out; omega
  have kb := hid kb
  have hxm := hgp.out x (by obtain ⟨t, ht⟩ := hG.out; rw [← ht]; simp)
  have hvx := hvb.out x hxm.1
  have hden := hxm.1.1
  have hc4 := hid (fun W (h : Ext w1 W) => hva.out x hxm.1 W h)
  have hc5 := hid (fun W => by_any (valU u c x) (nth x 0) hvx.1 hvx.2 (by have := hxm.2; omega) (by omega) W)
  have hVV : nth x 1 - nth x 2 * u + nth x 3 * c = valU u c x := rfl
  rw [hVV] at hc4
  have hmx := hmt.out x
  obtain ⟨V, eV⟩ : ∃ V, valU u c x = V := ⟨_, rfl⟩
  rw [eV] at hc4 hc5 hmx
  obtain ⟨N, eN⟩ : ∃ N, ratN V (nth x 0) = N := ⟨_, rfl⟩
  obtain ⟨De, eD⟩ : ∃ N, ratD V (nth x 0) = N := ⟨_, rfl⟩
  rw [eN, eD] at hc5 hmx
  have heq := fun W => run_eqRatio N De CN CD W
  rw [← hmx] at heq
  obtain ⟨G, hGe⟩ : ∃ G, MT x = G := ⟨_, rfl⟩
  rw [hGe] at heq
  clear hWa hWb kn xa za hLp hsz hkk hxm hvx hden hVV hmx eV eN eD
  obtain ⟨Bq, hBq⟩ : ∃ B, Wr.heap.size = B := ⟨_, rfl⟩
  rw [hBq] at d0 d1 d2 d3 hne ⊢
  replace hBq := hid hBq
  replace hGe := hid hGe
  gi_wp2_with fail
  refine region_round (S := fun w' => Ext Wb w') (by kernel_rfl) (by kernel_rfl) (by rintro ⟨_, _, h⟩; exact h) exE fun hHeld => ?_
  refine tkA (i := 0) (v := ?_) rfl (fun _ _ _ h => h) (Or.inl ⟨by rfl, ?yl⟩) (by assumption) ?_
  case yl => (intro w hSw; (try dsimp only at hSw); have kk0 := hSw.cell d0; have kk1 := hSw.cell d1; have kk2 := hSw.cell d2; have kk3 := hSw.cell d3; have kk4 := hSw.cell p8; have kk5 := hSw.cell q0; have kk6 := hSw.cell q1; go_simp); with_reducible rfl
  try simp only [Act.put, List.getElem_toArray, List.getElem_cons_succ, List.getElem_cons_zero, List.setIfInBounds_toArray, List.set_cons_zero, List.set_cons_succ]
  refine tkA (i := 1) (v := ?_) rfl (fun _ _ _ h => h) (Or.inl ⟨by rfl, ?yl⟩) (by assumption) ?_
  case yl => (intro w hSw; (try dsimp only at hSw); have kk0 := hSw.cell d0; have kk1 := hSw.cell d1; have kk2 := hSw.cell d2; have kk3 := hSw.cell d3; have kk4 := hSw.cell p8; have kk5 := hSw.cell q0; have kk6 := hSw.cell q1; go_simp); with_reducible rfl
  try simp only [Act.put, List.getElem_toArray, List.getElem_cons_succ, List.getElem_cons_zero, List.setIfInBounds_toArray, List.set_cons_zero, List.set_cons_succ]
  refine tkA (i := 3) (v := ?_) rfl (fun _ _ _ h => h) (Or.inl ⟨by rfl, ?yl⟩) (by assumption) ?_
  case yl => (intro w hSw; (try dsimp only at hSw); have kk0 := hSw.cell d0; have kk1 := hSw.cell d1; have kk2 := hSw.cell d2; have kk3 := hSw.cell d3; have kk4 := hSw.cell p8; have kk5 := hSw.cell q0; have kk6 := hSw.cell q1; go_simp); with_reducible rfl
  try simp only [Act.put, List.getElem_toArray, List.getElem_cons_succ, List.getElem_cons_zero, List.setIfInBounds_toArray, List.set_cons_zero, List.set_cons_succ]
  refine tkA (i := 4) (v := ?_) rfl (fun _ _ _ h => h) (Or.inl ⟨by rfl, ?yl⟩) (by assumption) ?_
  case yl => (intro w hSw; (try dsimp only at hSw); have kk0 := hSw.cell d0; have kk1 := hSw.cell d1; have kk2 := hSw.cell d2; have kk3 := hSw.cell d3; have kk4 := hSw.cell p8; have kk5 := hSw.cell q0; have kk6 := hSw.cell q1; go_simp); with_reducible rfl
  try simp only [Act.put, List.getElem_toArray, List.getElem_cons_succ, List.getElem_cons_zero, List.setIfInBounds_toArray, List.set_cons_zero, List.set_cons_succ]
  refine tkA (i := 6) (v := ?_) rfl (fun _ _ _ h => h) (Or.inl ⟨by rfl, ?yl⟩) (by assumption) ?_
  case yl => (intro w hSw; (try dsimp only at hSw); have kk0 := hSw.cell d0; have kk1 := hSw.cell d1; have kk2 := hSw.cell d2; have kk3 := hSw.cell d3; have kk4 := hSw.cell p8; have kk5 := hSw.cell q0; have kk6 := hSw.cell q1; go_simp); with_reducible rfl
  try simp only [Act.put, List.getElem_toArray, List.getElem_cons_succ, List.getElem_cons_zero, List.setIfInBounds_toArray, List.set_cons_zero, List.set_cons_succ]
  refine wpAnyH_ready (rs := [2]) (by kernel_rfl) (by simp) ?_
  refine AllReadyH.cons (o := _) rfl (fun K hK => ?_) AllReadyH.nil
  go_simp
  refine (hc4.out _ (by have := x1b.out; exact exE)).mono ?_; rintro e w5 ⟨rfl, hE5⟩
  have x5 : Ext Wb w5 := exE
  refine hK.out _ _ x5 (fun hHeld => ?_)
  clear hK K
  try simp only [Act.put, List.getElem_toArray, List.getElem_cons_succ, List.getElem_cons_zero, List.setIfInBounds_toArray, List.set_cons_zero, List.set_cons_succ]
  refine wpAnyH_ready (rs := [5]) (by kernel_rfl) (by simp) ?_
  refine AllReadyH.cons (o := _) rfl (fun K hK => ?_) AllReadyH.nil
  go_simp
  refine (hc5.out _).mono ?_; rintro e w6 ⟨rfl, hE6⟩
  have x6 : Ext Wb w6 := exE
  refine hK.out _ _ x6 (fun hHeld => ?_)
  clear hK K
  try simp only [Act.put, List.getElem_toArray, List.getElem_cons_succ, List.getElem_cons_zero, List.setIfInBounds_toArray, List.set_cons_zero, List.set_cons_succ]
  refine tkA (i := 7) (v := ?_) rfl (fun _ _ _ h => h) (Or.inl ⟨by rfl, ?yl⟩) (by assumption) ?_
  case yl => (intro w hSw; (try dsimp only at hSw); have kk0 := hSw.cell d0; have kk1 := hSw.cell d1; have kk2 := hSw.cell d2; have kk3 := hSw.cell d3; have kk4 := hSw.cell p8; have kk5 := hSw.cell q0; have kk6 := hSw.cell q1; go_simp); with_reducible rfl
  try simp only [Act.put, List.getElem_toArray, List.getElem_cons_succ, List.getElem_cons_zero, List.setIfInBounds_toArray, List.set_cons_zero, List.set_cons_succ]
  refine wpAnyH_done (by kernel_rfl) ?_ _
  have kb2 := hid (kb.out.trans (.of_ext x6))
  have rb6 := rbb.out.ext x6
  replace d0 := x6.cell d0; replace d1 := x6.cell d1; replace d2 := x6.cell d2; replace d3 := x6.cell d3
  have xb6 := hid (xb.out.trans x6)
  have lb6 := hid (Nat.lt_of_lt_of_le lb.out x6.size)
  have x6 := hid x6
  clear hHeld p8 q0 q1 heq hc4 hc5 hE5 hE6 x5
  obtain ⟨c0, c1, c2, c3, c4, f0, f1, f2, f3, f4⟩ := rb6
  have z0 := cell_lt c0
  have z4 := cell_lt c4
  dsimp only at z0 z4
  cases G with
  | true =>
   gi_wp2_with fail
   refine ⟨?_, rfl, pre, x, rfl, hpre.out, hGe.out, hG.out, ⟨by simp [go_sem, *], by simp [go_sem, *], by simp [go_sem, *], by simp [go_sem, *], by simp [go_sem, *], by simp [go_sem, World.frozen?_setCell, f0], by simp [go_sem, World.frozen?_setCell, f1], by simp [go_sem, World.frozen?_setCell, f2], by simp [go_sem, World.frozen?_setCell, f3], by simp [go_sem, World.frozen?_setCell, f4]⟩, by have := xb6.out; exact exE⟩
   have hb := hl2.out
   have k0 : KeepsFrom w3.heap.size Wb w6 := (KZ.of_ext (Z := fun _ => False) x6.out).keeps
   exact kf_set (kf_set (kf_set (kf_set (kf_set k0 _ _ (by dsimp only; omega)) _ _ (by dsimp only; omega)) _ _ (by dsimp only; omega)) _ _ (by dsimp only; omega)) _ _ (by dsimp only; omega)
  | false =>
   gi_wp2_with fail
   refine ⟨Z, KZ.of_ext x6.out, fun y hy => ?_, hZ.out, kb2.out⟩
   rcases List.mem_append.1 hy with h | h
   ·exact hpre.out y h
   ·rw [List.mem_singleton] at h; rw [h]; exact hGe.out
 case done =>
  rintro L xs Z Wd hD hS ⟨hx0, hZ, hk⟩ hsz hK
  subst hD hS
  have hFn : prF l u c s = none := by rw [hF.out]; exact find_no hx0
  rw [hFn] at hX hEr
  have hKK := hid hK
  have xd := hid (hk.ext X3.out X3.out.size)
  have rbb := rb.out.kn hk
  obtain ⟨c0, c1, c2, c3, c4, f0, f1, f2, f3, f4⟩ := rbb
  have z0 := cell_lt c0
  have z4 := cell_lt c4
  dsimp only at z0 z4
  replace hFn := hid hFn
  clear hK hk hZ hx0
  gi_wp2_with fail
  obtain ⟨We, hWe⟩ : ∃ We, We = ((((Wd.setCell ⟨w.heap.size + 1, 0, none⟩ (.int .i64 0)).setCell ⟨w.heap.size + 1, 1, none⟩ (.int .i64 0)).setCell ⟨w.heap.size + 1, 2, none⟩ (.int .i64 0)).setCell ⟨w.heap.size + 1, 3, none⟩ (.int .i64 0)).setCell ⟨w.heap.size + 1 + 1, 0, none⟩ (.int .i64 17) := ⟨_, rfl⟩
  have hb := l3.out
  have hKe : We.heap[w3.heap.size]? = some (.deferred (some [])) := by
   rw [hWe, Below.heap_setCell _ _ _ _ (by dsimp only; omega), Below.heap_setCell _ _ _ _ (by dsimp only; omega), Below.heap_setCell _ _ _ _ (by dsimp only; omega), Below.heap_setCell _ _ _ _ (by dsimp only; omega), Below.heap_setCell _ _ _ _ (by dsimp only; omega)]
   exact hKK.out
  have be : Bx5 We (w.heap.size + 1) (w.heap.size + 2) [0, 0, 0, 0] 17 := by
   rw [hWe]
   exact ⟨by simp [go_sem, nth, *], by simp [go_sem, nth, *], by simp [go_sem, nth, *], by simp [go_sem, nth, *], by simp [go_sem, *], by simp [go_sem, World.frozen?_setCell, f0], by simp [go_sem, World.frozen?_setCell, f1], by simp [go_sem, World.frozen?_setCell, f2], by simp [go_sem, World.frozen?_setCell, f3], by simp [go_sem, World.frozen?_setCell, f4]⟩
  have xe2 : Ext w We := by rw [hWe]; have := xd.out; exact exE
  have kn2 : KN w3.heap.size We (We.putObj w3.heap.size (.deferred none)) := KN.put _ (Nat.le_refl _) (fun o ho => by rw [hKe] at ho; cases ho; rfl)
  have be2 := be.kn kn2
  have xe3 := kn2.ext xe2 X3.out.size
  rw [← hWe]
  clear hWe c0 c1 c2 c3 c4 f0 f1 f2 f3 f4 z0 z4 be
  obtain ⟨c0, c1, c2, c3, c4, f0, f1, f2, f3, f4⟩ := be2
  simp only [nth, List.getD_cons_zero, List.getD_cons_succ] at c0 c1 c2 c3
  refine ⟨by simp, .inl ⟨_, _, rfl, run_takeDeferred hKe, ?_⟩⟩
  exact ⟨kv5 [0, 0, 0, 0] 17, by simp [results, Try.results35, go_sem, kv5, kv, nth, *], by rw [hX.out, hEr.out]; rfl, xe3⟩
 case stop =>
  rintro L cd pre Wd hD hS ⟨rfl, pre', x, rfl, hpre, hmx, hG, hbx, hx⟩ hK
  subst hD
  have hKK := hid hK
  have hFn : prF l u c s = some x := by rw [hF.out]; exact find_pre hG hpre hmx
  rw [hFn] at hX hEr
  have kn : KN w3.heap.size Wd (Wd.putObj w3.heap.size (.deferred none)) := KN.put _ (Nat.le_refl _) (fun o ho => by rw [hK] at ho; cases ho; rfl)
  have xe := hid (kn.ext hx X3.out.size)
  have rbb := hbx.kn kn
  replace hpre := hid hpre
  replace hmx := hid hmx
  replace hFn := hid hFn
  gi_wp2_with fail
  obtain ⟨c0, c1, c2, c3, c4, f0, f1, f2, f3, f4⟩ := rbb
  refine ⟨by simp, .inl ⟨_, _, rfl, run_takeDeferred hKK.out, ?_⟩⟩
  exact ⟨kv5 x 0, by simp [results, Try.results35, go_sem, kv5, kv, *], by rw [hX.out, hEr.out]; rfl, xe.out⟩
end Go.Proofs.Ytpnfhcnnodolbaa
namespace Go.Proofs.Ytpnfhcnnodolbaa
open Go Go.RowKit Game
def mL : List Met := [⟨90, 0, 0, 0, 0⟩, ⟨20, 1000, 1000, 0, 0⟩, ⟨120, 0, 0, 1000, 1000⟩, ⟨50, 180, 220, 10, 20⟩]
def vL : List Met := [⟨20, 1000, 1000, 0, 0⟩, ⟨50, 180, 220, 10, 20⟩]
theorem i64_of {x : Int} (h : decide (-9223372036854775808 ≤ x) && decide (x ≤ 9223372036854775807) = true) : I64 x := by
 simp only [Bool.and_eq_true, decide_eq_true_eq] at h
 unfold I64; omega
theorem fitM_of {l : List Met} (h : l.all (fun m => decide (-1000 ≤ m.p) && decide (m.p ≤ 1000) && decide (-1000 ≤ m.ll) && decide (m.ll ≤ 1000) && decide (-1000 ≤ m.lh) && decide (m.lh ≤ 1000) && decide (-1000 ≤ m.cl) && decide (m.cl ≤ 1000) && decide (-1000 ≤ m.ch) && decide (m.ch ≤ 1000)) = true) : FitM l := by
 intro i
 unfold mtl
 rw [List.getD_eq_getElem?_getD]
 rcases Nat.lt_or_ge i l.length with hi | hi
 ·rw [List.getElem?_eq_getElem hi, Option.getD_some]
  have := List.all_eq_true.1 h _ (List.getElem_mem hi)
  simp only [Bool.and_eq_true, decide_eq_true_eq] at this
  unfold I64
  omega
 ·rw [List.getElem?_eq_none hi, Option.getD_none]
  exact ⟨i64_of (by decide), i64_of (by decide), i64_of (by decide), i64_of (by decide), i64_of (by decide)⟩
theorem fitI_of {l : List Int} (h : l.all (fun x => decide (-1000000000 ≤ x) && decide (x ≤ 1000000000)) = true) : ∀ i, I64 (nth l i) := by
 intro i
 unfold nth
 rw [List.getD_eq_getElem?_getD]
 rcases Nat.lt_or_ge i l.length with hi | hi
 ·rw [List.getElem?_eq_getElem hi, Option.getD_some]
  have := List.all_eq_true.1 h _ (List.getElem_mem hi)
  simp only [Bool.and_eq_true, decide_eq_true_eq] at this
  unfold I64
  omega
 ·rw [List.getElem?_eq_none hi, Option.getD_none]
  unfold I64
  omega
theorem mL_fit : FitM mL := fitM_of (by decide)
theorem vL_fit : FitM vL := fitM_of (by decide)
theorem i100 : I64 100 := by unfold I64; omega
theorem i10 : I64 10 := by unfold I64; omega
theorem cCostA (a : Option Addr) (cap : Nat) (a2 : Option Addr) (c2 : Nat) (w : World) (hM : Mts w a mL) (hI : Ints w a2 [297, 0, 3, 250]) : Calls Try.prog 19 #[.slice a 4 cap, .slice a2 4 c2] w fun e w' => e = .returned (.tuple #[.agg #[.int .i64 (3959), .int .i64 (55)], .int .i64 (0)]) ∧ Ext w w' := by
 have h := costC_any mL mL_fit (by decide) a cap [297, 0, 3, 250] (fitI_of (by decide)) (by decide) a2 c2 w hM hI
 rw [show costNE mL [297, 0, 3, 250] = 3959 by decide +kernel, show costDE mL [297, 0, 3, 250] = 55 by decide +kernel, show costE mL [297, 0, 3, 250] = 0 by decide +kernel] at h
 exact h
theorem cCostB (a : Option Addr) (cap : Nat) (a2 : Option Addr) (c2 : Nat) (w : World) (hM : Mts w a mL) (hI : Ints w a2 [0, 0, 0, 0]) : Calls Try.prog 19 #[.slice a 4 cap, .slice a2 4 c2] w fun e w' => e = .returned (.tuple #[.agg #[.int .i64 (0), .int .i64 (0)], .int .i64 (2)]) ∧ Ext w w' := by
 have h := costC_any mL mL_fit (by decide) a cap [0, 0, 0, 0] (fitI_of (by decide)) (by decide) a2 c2 w hM hI
 rw [show costNE mL [0, 0, 0, 0] = 0 by decide +kernel, show costDE mL [0, 0, 0, 0] = 0 by decide +kernel, show costE mL [0, 0, 0, 0] = 2 by decide +kernel] at h
 exact h
theorem cCostC (a : Option Addr) (cap : Nat) (a2 : Option Addr) (c2 : Nat) (w : World) (hM : Mts w a mL) (hI : Ints w a2 [1, 1]) : Calls Try.prog 19 #[.slice a 4 cap, .slice a2 2 c2] w fun e w' => e = .returned (.tuple #[.agg #[.int .i64 (0), .int .i64 (0)], .int .i64 (15)]) ∧ Ext w w' := by
 have h := costC_any mL mL_fit (by decide) a cap [1, 1] (fitI_of (by decide)) (by decide) a2 c2 w hM hI
 rw [show costNE mL [1, 1] = 0 by decide +kernel, show costDE mL [1, 1] = 0 by decide +kernel, show costE mL [1, 1] = 15 by decide +kernel] at h
 exact h
theorem cEnds (a : Option Addr) (cap : Nat) (a2 : Option Addr) (c2 : Nat) (w : World) (hM : Mts w a mL) (hI : Ints w a2 [0, 0, 0, 1]) : Calls Try.prog 21 #[.slice a 4 cap, .slice a2 4 c2, .bool false] w fun e w' => e = .returned (.tuple #[.agg #[.int .i64 (180), .int .i64 (1)], .agg #[.int .i64 (220), .int .i64 (1)], .int .i64 (0)]) ∧ Ext w w' := by
 have h := endsC_any mL mL_fit (by decide) a cap [0, 0, 0, 1] (fitI_of (by decide)) (by decide) a2 c2 false w hM hI
 rw [show endX mL false [0, 0, 0, 1] = [180, 1, 220, 1] by decide +kernel, show costE mL [0, 0, 0, 1] = 0 by decide +kernel] at h
 exact h
theorem cDes1 (a : Option Addr) (cap : Nat) (a2 : Option Addr) (c2 : Nat) (w : World) (hM : Mts w a mL) (hI : Ints w a2 [297, 0, 3, 250]) : Calls Try.prog 27 #[.slice a 4 cap, (.agg #[.int .i64 (100), .int .i64 (10)]), .bool true, .slice a2 4 c2] w fun e w' => e = .returned (.int .i64 0) ∧ Ext w w' := by
 have h := deserves_any mL mL_fit (by decide) a cap 100 10 i100 i10 true [297, 0, 3, 250] (fitI_of (by decide)) (by decide) a2 c2 w hM hI
 rw [show desE mL 100 10 true [297, 0, 3, 250] = 0 by decide +kernel] at h
 exact h
theorem cDes2 (a : Option Addr) (cap : Nat) (a2 : Option Addr) (c2 : Nat) (w : World) (hM : Mts w a mL) (hI : Ints w a2 [4, 0, 0, 5]) : Calls Try.prog 27 #[.slice a 4 cap, (.agg #[.int .i64 (100), .int .i64 (10)]), .bool true, .slice a2 4 c2] w fun e w' => e = .returned (.int .i64 17) ∧ Ext w w' := by
 have h := deserves_any mL mL_fit (by decide) a cap 100 10 i100 i10 true [4, 0, 0, 5] (fitI_of (by decide)) (by decide) a2 c2 w hM hI
 rw [show desE mL 100 10 true [4, 0, 0, 5] = 17 by decide +kernel] at h
 exact h
theorem cDes3 (a : Option Addr) (cap : Nat) (a2 : Option Addr) (c2 : Nat) (w : World) (hM : Mts w a mL) (hI : Ints w a2 [4, 0, 0, 5]) : Calls Try.prog 27 #[.slice a 4 cap, (.agg #[.int .i64 (100), .int .i64 (10)]), .bool false, .slice a2 4 c2] w fun e w' => e = .returned (.int .i64 0) ∧ Ext w w' := by
 have h := deserves_any mL mL_fit (by decide) a cap 100 10 i100 i10 false [4, 0, 0, 5] (fitI_of (by decide)) (by decide) a2 c2 w hM hI
 rw [show desE mL 100 10 false [4, 0, 0, 5] = 0 by decide +kernel] at h
 exact h
theorem cDes4 (a : Option Addr) (cap : Nat) (a2 : Option Addr) (c2 : Nat) (w : World) (hM : Mts w a mL) (hI : Ints w a2 [1, 0, 0, 0]) : Calls Try.prog 27 #[.slice a 4 cap, (.agg #[.int .i64 (100), .int .i64 (10)]), .bool false, .slice a2 4 c2] w fun e w' => e = .returned (.int .i64 17) ∧ Ext w w' := by
 have h := deserves_any mL mL_fit (by decide) a cap 100 10 i100 i10 false [1, 0, 0, 0] (fitI_of (by decide)) (by decide) a2 c2 w hM hI
 rw [show desE mL 100 10 false [1, 0, 0, 0] = 17 by decide +kernel] at h
 exact h
theorem cLst1 (a : Option Addr) (cap : Nat) (w : World) (hM : Mts w a mL) : Calls Try.prog 29 #[.slice a 4 cap, (.agg #[.int .i64 (100), .int .i64 (10)]), .bool true] w fun e w' => e = .returned (.tuple #[.agg #[.int .i64 (3959), .int .i64 (55)], .int .i64 (0)]) ∧ Ext w w' := by
 have h := least_any mL (fitM_of (by decide)) (by decide) a cap 100 10 i100 i10 true w hM
 rw [show lstN mL 100 10 true = 3959 by decide +kernel, show lstD mL 100 10 true = 55 by decide +kernel, show cheE mL 100 10 true = 0 by decide +kernel] at h
 exact h
theorem cLst2 (a : Option Addr) (cap : Nat) (w : World) (hM : Mts w a mL) : Calls Try.prog 29 #[.slice a 4 cap, (.agg #[.int .i64 (100), .int .i64 (10)]), .bool false] w fun e w' => e = .returned (.tuple #[.agg #[.int .i64 (610), .int .i64 (9)], .int .i64 (0)]) ∧ Ext w w' := by
 have h := least_any mL (fitM_of (by decide)) (by decide) a cap 100 10 i100 i10 false w hM
 rw [show lstN mL 100 10 false = 610 by decide +kernel, show lstD mL 100 10 false = 9 by decide +kernel, show cheE mL 100 10 false = 0 by decide +kernel] at h
 exact h
theorem cLst3 (a : Option Addr) (cap : Nat) (w : World) (hM : Mts w a vL) : Calls Try.prog 29 #[.slice a 2 cap, (.agg #[.int .i64 (100), .int .i64 (10)]), .bool true] w fun e w' => e = .returned (.tuple #[.agg #[.int .i64 (0), .int .i64 (0)], .int .i64 (17)]) ∧ Ext w w' := by
 have h := least_any vL (fitM_of (by decide)) (by decide) a cap 100 10 i100 i10 true w hM
 rw [show lstN vL 100 10 true = 0 by decide +kernel, show lstD vL 100 10 true = 0 by decide +kernel, show cheE vL 100 10 true = 17 by decide +kernel] at h
 exact h
theorem cChp (a : Option Addr) (cap : Nat) (w : World) (hM : Mts w a mL) : Calls Try.prog 31 #[.slice a 4 cap, (.agg #[.int .i64 (100), .int .i64 (10)]), .bool true] w fun e w' => ∃ al cl, e = .returned (.tuple #[.slice al 4 cl, .int .i64 0]) ∧ Ints w' al [118800, 0, 1200, 100000] ∧ Ext w w' := by
 have h := cheapestP_any mL mL_fit (by decide) a cap 100 10 i100 i10 true w hM
 rw [show chpR mL 100 10 true = [118800, 0, 1200, 100000] by decide +kernel, show cheE mL 100 10 true = 0 by decide +kernel] at h
 exact h
theorem cPrf1 (a : Option Addr) (cap : Nat) (w : World) (hM : Mts w a mL) : Calls Try.prog 33 #[.slice a 4 cap, (.agg #[.int .i64 (100), .int .i64 (10)]), .bool true, (.agg #[.int .i64 (2200), .int .i64 (198000), .int .i64 (403), .int .i64 (66)])] w fun e w' => e = .returned (.tuple #[.agg #[.int .i64 (3959), .int .i64 (55)], .int .i64 (0)]) ∧ Ext w w' := by
 have h := checkProof_any mL mL_fit (by decide) a cap 100 10 i100 i10 true 2200 198000 403 66 (i64_of (by decide)) (i64_of (by decide)) (i64_of (by decide)) (i64_of (by decide)) w hM
 rw [show prfNE mL 100 10 true 2200 198000 403 66 = 3959 by decide +kernel, show prfDE mL 100 10 true 2200 198000 403 66 = 55 by decide +kernel, show prfE mL 100 10 true 2200 198000 403 66 = 0 by decide +kernel] at h
 exact h
theorem cPrf2 (a : Option Addr) (cap : Nat) (w : World) (hM : Mts w a mL) : Calls Try.prog 33 #[.slice a 4 cap, (.agg #[.int .i64 (100), .int .i64 (10)]), .bool true, (.agg #[.int .i64 (1), .int .i64 (50), .int .i64 (0), .int .i64 (0)])] w fun e w' => e = .returned (.tuple #[.agg #[.int .i64 (0), .int .i64 (0)], .int .i64 (14)]) ∧ Ext w w' := by
 have h := checkProof_any mL mL_fit (by decide) a cap 100 10 i100 i10 true 1 50 0 0 (i64_of (by decide)) (i64_of (by decide)) (i64_of (by decide)) (i64_of (by decide)) w hM
 rw [show prfNE mL 100 10 true 1 50 0 0 = 0 by decide +kernel, show prfDE mL 100 10 true 1 50 0 0 = 0 by decide +kernel, show prfE mL 100 10 true 1 50 0 0 = 14 by decide +kernel] at h
 exact h
theorem cRpf (a : Option Addr) (cap : Nat) (w : World) (hM : Mts w a mL) : Calls Try.prog 34 #[.slice a 4 cap, (.agg #[.int .i64 (100), .int .i64 (10)]), .bool true, (.agg #[.int .i64 (220000), .int .i64 (19800000), .int .i64 (40300), .int .i64 (6600)])] w fun e w' => e = .returned (.tuple #[.agg #[.int .i64 (3959), .int .i64 (55)], .int .i64 (0)]) ∧ Ext w w' := by
 have h := checkProofR_any mL mL_fit (by decide) a cap 100 10 true 220000 19800000 40300 6600 w hM
 rw [show prfNE mL 100 10 true 220000 19800000 40300 6600 = 3959 by decide +kernel, show prfDE mL 100 10 true 220000 19800000 40300 6600 = 55 by decide +kernel, show prfE mL 100 10 true 220000 19800000 40300 6600 = 0 by decide +kernel] at h
 exact h
theorem cPro (a : Option Addr) (cap : Nat) (w : World) (hM : Mts w a mL) : Calls Try.prog 35 #[.slice a 4 cap, (.agg #[.int .i64 (100), .int .i64 (10)]), .bool true] w fun e w' => e = .returned (.tuple #[(.agg #[.int .i64 (220000), .int .i64 (19800000), .int .i64 (40300), .int .i64 (6600)]), .int .i64 0]) ∧ Ext w w' := by
 have h := proof_any mL mL_fit (by decide) a cap 100 10 i100 i10 true w hM
 rw [show proX mL 100 10 true = [220000, 19800000, 40300, 6600] by decide +kernel, show proEr mL 100 10 true = 0 by decide +kernel] at h
 exact h
theorem cNvr1 (a : Option Addr) (cap : Nat) (w : World) (hM : Mts w a vL) : Calls Try.prog 37 #[.slice a 2 cap, (.agg #[.int .i64 (100), .int .i64 (10)]), .bool true, (.agg #[.int .i64 (0), .int .i64 (220), .int .i64 (1), .int .i64 (0)])] w fun e w' => e = .returned (.int .i64 0) ∧ Ext w w' := by
 have h := checkNever_any vL vL_fit (by decide) a cap 100 10 i100 i10 true 0 220 1 0 (i64_of (by decide)) (i64_of (by decide)) (i64_of (by decide)) (i64_of (by decide)) w hM
 rw [show nvrE vL 100 10 true 0 220 1 0 = 0 by decide +kernel] at h
 exact h
theorem cNvr2 (a : Option Addr) (cap : Nat) (w : World) (hM : Mts w a vL) : Calls Try.prog 37 #[.slice a 2 cap, (.agg #[.int .i64 (100), .int .i64 (10)]), .bool true, (.agg #[.int .i64 (0), .int .i64 (1), .int .i64 (0), .int .i64 (0)])] w fun e w' => e = .returned (.int .i64 14) ∧ Ext w w' := by
 have h := checkNever_any vL vL_fit (by decide) a cap 100 10 i100 i10 true 0 1 0 0 (i64_of (by decide)) (i64_of (by decide)) (i64_of (by decide)) (i64_of (by decide)) w hM
 rw [show nvrE vL 100 10 true 0 1 0 0 = 14 by decide +kernel] at h
 exact h
theorem cNev1 (a : Option Addr) (cap : Nat) (w : World) (hM : Mts w a vL) : Calls Try.prog 36 #[.slice a 2 cap, (.agg #[.int .i64 (100), .int .i64 (10)]), .bool true] w fun e w' => e = .returned (.tuple #[(.agg #[.int .i64 (0), .int .i64 (220), .int .i64 (1), .int .i64 (0)]), .int .i64 0]) ∧ Ext w w' := by
 have h := never_any vL vL_fit (by decide) a cap 100 10 i100 i10 true w hM
 rw [show nvX vL 100 10 true = [0, 220, 1, 0] by decide +kernel, show nvEr vL 100 10 true = 0 by decide +kernel] at h
 exact h
theorem cNev2 (a : Option Addr) (cap : Nat) (w : World) (hM : Mts w a mL) : Calls Try.prog 36 #[.slice a 4 cap, (.agg #[.int .i64 (100), .int .i64 (10)]), .bool true] w fun e w' => e = .returned (.tuple #[(.agg #[.int .i64 (0), .int .i64 (0), .int .i64 (0), .int .i64 (0)]), .int .i64 5]) ∧ Ext w w' := by
 have h := never_any mL mL_fit (by decide) a cap 100 10 i100 i10 true w hM
 rw [show nvX mL 100 10 true = [0, 0, 0, 0] by decide +kernel, show nvEr mL 100 10 true = 5 by decide +kernel] at h
 exact h
theorem cSha1 (a : Option Addr) (cap : Nat) (w : World) (hM : Mts w a mL) : Calls Try.prog 40 #[.slice a 4 cap, (.agg #[.int .i64 (100), .int .i64 (10)]), .bool true, .int .i64 3] w fun e w' => e = .returned (.tuple #[.agg #[.int .i64 (0), .int .i64 (1)], .agg #[.int .i64 (5), .int .i64 (11)], .int .i64 (0)]) ∧ Ext w w' := by
 have h := share_any mL mL_fit (by decide) a cap 100 10 i100 i10 true 3 (i64_of (by decide)) w hM
 rw [show shX mL 100 10 true 3 = [0, 1, 5, 11] by decide +kernel, show shE mL 100 10 true 3 = 0 by decide +kernel] at h
 exact h
theorem cSha2 (a : Option Addr) (cap : Nat) (w : World) (hM : Mts w a mL) : Calls Try.prog 40 #[.slice a 4 cap, (.agg #[.int .i64 (100), .int .i64 (10)]), .bool true, .int .i64 4] w fun e w' => e = .returned (.tuple #[.agg #[.int .i64 (0), .int .i64 (0)], .agg #[.int .i64 (0), .int .i64 (0)], .int .i64 (2)]) ∧ Ext w w' := by
 have h := share_any mL mL_fit (by decide) a cap 100 10 i100 i10 true 4 (i64_of (by decide)) w hM
 rw [show shX mL 100 10 true 4 = [0, 0, 0, 0] by decide +kernel, show shE mL 100 10 true 4 = 2 by decide +kernel] at h
 exact h
theorem cRde (a : Option Addr) (cap : Nat) (a2 : Option Addr) (c2 : Nat) (w : World) (hM : Mts w a mL) (hI : Ints w a2 [118800, 0, 1200, 100000]) : Calls Try.prog 28 #[.slice a 4 cap, (.agg #[.int .i64 (100), .int .i64 (10)]), .bool true, .slice a2 4 c2] w fun e w' => e = .returned (.int .i64 0) ∧ Ext w w' := by
 have h := deservesR_any mL mL_fit (by decide) a cap 100 10 true [118800, 0, 1200, 100000] (fitI_of (by decide)) (by decide) a2 c2 w hM hI
 rw [show desE mL 100 10 true [118800, 0, 1200, 100000] = 0 by decide +kernel] at h
 exact h
theorem cRnv (a : Option Addr) (cap : Nat) (w : World) (hM : Mts w a vL) : Calls Try.prog 38 #[.slice a 2 cap, (.agg #[.int .i64 (100), .int .i64 (10)]), .bool true, (.agg #[.int .i64 (0), .int .i64 (220), .int .i64 (1), .int .i64 (0)])] w fun e w' => e = .returned (.int .i64 0) ∧ Ext w w' := by
 have h := checkNeverR_any vL vL_fit (by decide) a cap 100 10 true 0 220 1 0 w hM
 rw [show nvrE vL 100 10 true 0 220 1 0 = 0 by decide +kernel] at h
 exact h
theorem metalL_any (p a b c d : Int) (w : World) : Calls Try.prog 86 #[.int .i64 p, .int .i64 a, .int .i64 b, .int .i64 c, .int .i64 d] w fun e w' => e = .returned (.agg #[.int .i64 (p), .int .i64 (a), .int .i64 (b), .int .i64 (c), .int .i64 (d)]) ∧ Ext w w' := by
 go_enter Try.func86, Try.ntmps86
 go_wp2_with fail
 refine bodyPost_ret (v := (.agg #[.int .i64 (p), .int .i64 (a), .int .i64 (b), .int .i64 (c), .int .i64 (d)])) (by simp [results, Try.results86, go_sem]) rfl ⟨rfl, exE⟩
theorem proofL_any (p a b c : Int) (w : World) : Calls Try.prog 54 #[.int .i64 p, .int .i64 a, .int .i64 b, .int .i64 c] w fun e w' => e = .returned (.agg #[.int .i64 (p), .int .i64 (a), .int .i64 (b), .int .i64 (c)]) ∧ Ext w w' := by
 go_enter Try.func54, Try.ntmps54
 go_wp2_with fail
 refine bodyPost_ret (v := (.agg #[.int .i64 (p), .int .i64 (a), .int .i64 (b), .int .i64 (c)])) (by simp [results, Try.results54, go_sem]) rfl ⟨rfl, exE⟩
theorem touchL_any (w : World) : Calls Try.prog 52 #[] w fun e w' => e = .returned (.agg #[.int .i64 (100), .int .i64 (10)]) ∧ Ext w w' := by
 go_enter Try.func52, Try.ntmps52
 go_wp2_with fail
 refine bodyPost_ret (v := (.agg #[.int .i64 (100), .int .i64 (10)])) (by simp [results, Try.results52, go_sem]) rfl ⟨rfl, exE⟩
theorem two_any (w : World) : Calls Try.prog 51 #[] w fun e w' => ∃ g, e = .returned (.slice (some ⟨g, 0, none⟩) 2 2) ∧ Mts w' (some ⟨g, 0, none⟩) vL ∧ Ext w w' := by
 go_enter Try.func51, Try.ntmps51
 go_wp2_with fail
 refine (metalL_any _ _ _ _ _ _).mono ?_; rintro e w1 ⟨rfl, hE1⟩
 go_wp2_with fail
 refine (metalL_any _ _ _ _ _ _).mono ?_; rintro e w2 ⟨rfl, hE2⟩
 go_wp2_with fail
 go_ret
 refine ⟨_, rfl, fun i hi => ⟨_, _, rfl, ?_⟩, exE⟩
 match i, hi with
 | 0, _ => exact ⟨by simp [go_sem, mtl, vL], by simp [go_sem, mtl, vL], by simp [go_sem, mtl, vL], by simp [go_sem, mtl, vL], by simp [go_sem, mtl, vL]⟩
 | 1, _ => exact ⟨by simp [go_sem, mtl, vL], by simp [go_sem, mtl, vL], by simp [go_sem, mtl, vL], by simp [go_sem, mtl, vL], by simp [go_sem, mtl, vL]⟩
theorem four_any (w : World) : Calls Try.prog 50 #[] w fun e w' => ∃ g, e = .returned (.slice (some ⟨g, 0, none⟩) 4 4) ∧ Mts w' (some ⟨g, 0, none⟩) mL ∧ Ext w w' := by
 go_enter Try.func50, Try.ntmps50
 go_wp2_with fail
 refine (metalL_any _ _ _ _ _ _).mono ?_; rintro e w1 ⟨rfl, hE1⟩
 go_wp2_with fail
 refine (metalL_any _ _ _ _ _ _).mono ?_; rintro e w2 ⟨rfl, hE2⟩
 go_wp2_with fail
 refine (metalL_any _ _ _ _ _ _).mono ?_; rintro e w3 ⟨rfl, hE3⟩
 go_wp2_with fail
 refine (metalL_any _ _ _ _ _ _).mono ?_; rintro e w4 ⟨rfl, hE4⟩
 go_wp2_with fail
 go_ret
 refine ⟨_, rfl, fun i hi => ⟨_, _, rfl, ?_⟩, exE⟩
 match i, hi with
 | 0, _ => exact ⟨by simp [go_sem, mtl, mL], by simp [go_sem, mtl, mL], by simp [go_sem, mtl, mL], by simp [go_sem, mtl, mL], by simp [go_sem, mtl, mL]⟩
 | 1, _ => exact ⟨by simp [go_sem, mtl, mL], by simp [go_sem, mtl, mL], by simp [go_sem, mtl, mL], by simp [go_sem, mtl, mL], by simp [go_sem, mtl, mL]⟩
 | 2, _ => exact ⟨by simp [go_sem, mtl, mL], by simp [go_sem, mtl, mL], by simp [go_sem, mtl, mL], by simp [go_sem, mtl, mL], by simp [go_sem, mtl, mL]⟩
 | 3, _ => exact ⟨by simp [go_sem, mtl, mL], by simp [go_sem, mtl, mL], by simp [go_sem, mtl, mL], by simp [go_sem, mtl, mL], by simp [go_sem, mtl, mL]⟩
theorem litN {w : World} (l : List Int) {t : TypeId} {n : Nat} {a : Array Value} (h : n = w.heap.size) (ha : a = (l.map fun x => Value.int .i64 x).toArray) : Ints (w.alloc (.cells a t)) (some ⟨n, 0, none⟩) l := by
 subst h ha
 intro i hi
 exact ⟨_, _, rfl, by simp [go_sem, nth, List.getElem?_eq_getElem hi]⟩
theorem litM {w : World} (l : List Int) {t : TypeId} {n : Nat} (h : n = w.heap.size) : Ints (w.alloc (.cells (l.map fun x => Value.int .i64 x).toArray t)) (some ⟨n, 0, none⟩) l := litN l h rfl
set_option maxHeartbeats 40000000 in
theorem stW2 {yA yC yD yE yF yG yH yI yJ yK yL yM yN yO yP yQ yR yS yT yU yV yW yX yY yZ zA zB zC zD zE zF zG zH zI zJ zK zL zM zN zO zP zQ zR zS zT zU zV zW zX zY zZ uA uB uC uD uE uF uG uH uI uJ uK uL uM uN uO uP uQ uR uS uT uU uV uW uX uY uZ iA iB iC iD iE iF iG iH iI iJ iK iL iM iN iO iP iQ iR iS iT iU iV iW iX iY iZ oA oB oC oD oE oF oG oH oI oJ oK oL oM oN oO oP oQ oR oS oT oU oV oW oX oY oZ qA qB qC qD qE qF qG qH qI qJ qK qL qM qN qO qP qQ qR qS qT qU qV qW qX qY qZ rA rB rC rD rE rF rG rH rI rJ rK rL rM rN rO rP rQ rR rS rT rU rV rW rX rY rZ jA jB jC jD jE jF jG jH jI jJ jK jL jM jN jO jP jQ jR jS jT jU jV jW jX jY jZ nA nB nC nD nE nF nG nH nI nJ nK nL nM nN nO nP nQ nR nS nT nU nV nW nX nY nZ gA gB gC gD gE gF gG gH gI gJ gK gL gM gN gO gP gQ gR gS gT gU gV gW gX gY gZ fA fB fC fD fE fF fG fH fI fJ fK fL fM fN fO fP fQ fR fS fT fU fV fW fX fY fZ dA dB dC dD dE dF dG dH dI dJ dK dL dM dN dO dP dQ dR dS dT dU dV dW dX dY dZ cA cB cC cD cE cF cG cH cI cJ cK : Value} {gm : Nat} {w : World} (hm : Mts w (some ⟨gm, 0, none⟩) mL) :
 Code.wp Try.prog (rgn Try.f18 2) (fun e a' w' => e = .normal ∧ ∃ (B4 : Nat) (zW' zX' zY' zZ' uA' uB' uC' : Value), a' = { tmps := #[yA,.slice (some ⟨gm, 0, none⟩) 4 4,yC,yD,.pointer (some ⟨B4, 0, none⟩),.int .i64 0,yG,yH,yI,yJ,yK,yL,yM,yN,yO,yP,yQ,yR,yS,yT,yU,yV,yW,yX,yY,yZ,zA,zB,zC,zD,zE,zF,zG,zH,zI,zJ,zK,zL,zM,zN,zO,zP,zQ,zR,zS,zT,zU,zV,zW',zX',zY',zZ',uA',uB',uC',uD,uE,uF,uG,uH,uI,uJ,uK,uL,uM,uN,uO,uP,uQ,uR,uS,uT,uU,uV,uW,uX,uY,uZ,iA,iB,iC,iD,iE,iF,iG,iH,iI,iJ,iK,iL,iM,iN,iO,iP,iQ,iR,iS,iT,iU,iV,iW,iX,iY,iZ,oA,oB,oC,oD,oE,oF,oG,oH,oI,oJ,oK,oL,oM,oN,oO,oP,oQ,oR,oS,oT,oU,oV,oW,oX,oY,oZ,qA,qB,qC,qD,qE,qF,qG,qH,qI,qJ,qK,qL,qM,qN,qO,qP,qQ,qR,qS,qT,qU,qV,qW,qX,qY,qZ,rA,rB,rC,rD,rE,rF,rG,rH,rI,rJ,rK,rL,rM,rN,rO,rP,rQ,rR,rS,rT,rU,rV,rW,rX,rY,rZ,jA,jB,jC,jD,jE,jF,jG,jH,jI,jJ,jK,jL,jM,jN,jO,jP,jQ,jR,jS,jT,jU,jV,jW,jX,jY,jZ,nA,nB,nC,nD,nE,nF,nG,nH,nI,nJ,nK,nL,nM,nN,nO,nP,nQ,nR,nS,nT,nU,nV,nW,nX,nY,nZ,gA,gB,gC,gD,gE,gF,gG,gH,gI,gJ,gK,gL,gM,gN,gO,gP,gQ,gR,gS,gT,gU,gV,gW,gX,gY,gZ,fA,fB,fC,fD,fE,fF,fG,fH,fI,fJ,fK,fL,fM,fN,fO,fP,fQ,fR,fS,fT,fU,fV,fW,fX,fY,fZ,dA,dB,dC,dD,dE,dF,dG,dH,dI,dJ,dK,dL,dM,dN,dO,dP,dQ,dR,dS,dT,dU,dV,dW,dX,dY,dZ,cA,cB,cC,cD,cE,cF,cG,cH,cI,cJ,cK], defers := [] } ∧ Ext w w' ∧ w'.cell? ⟨B4, 0, none⟩ = some (.int .i64 3959) ∧ w'.cell? ⟨B4, 1, none⟩ = some (.int .i64 55)) { tmps := #[yA,.slice (some ⟨gm, 0, none⟩) 4 4,yC,yD,yE,yF,yG,yH,yI,yJ,yK,yL,yM,yN,yO,yP,yQ,yR,yS,yT,yU,yV,yW,yX,yY,yZ,zA,zB,zC,zD,zE,zF,zG,zH,zI,zJ,zK,zL,zM,zN,zO,zP,zQ,zR,zS,zT,zU,zV,zW,zX,zY,zZ,uA,uB,uC,uD,uE,uF,uG,uH,uI,uJ,uK,uL,uM,uN,uO,uP,uQ,uR,uS,uT,uU,uV,uW,uX,uY,uZ,iA,iB,iC,iD,iE,iF,iG,iH,iI,iJ,iK,iL,iM,iN,iO,iP,iQ,iR,iS,iT,iU,iV,iW,iX,iY,iZ,oA,oB,oC,oD,oE,oF,oG,oH,oI,oJ,oK,oL,oM,oN,oO,oP,oQ,oR,oS,oT,oU,oV,oW,oX,oY,oZ,qA,qB,qC,qD,qE,qF,qG,qH,qI,qJ,qK,qL,qM,qN,qO,qP,qQ,qR,qS,qT,qU,qV,qW,qX,qY,qZ,rA,rB,rC,rD,rE,rF,rG,rH,rI,rJ,rK,rL,rM,rN,rO,rP,rQ,rR,rS,rT,rU,rV,rW,rX,rY,rZ,jA,jB,jC,jD,jE,jF,jG,jH,jI,jJ,jK,jL,jM,jN,jO,jP,jQ,jR,jS,jT,jU,jV,jW,jX,jY,jZ,nA,nB,nC,nD,nE,nF,nG,nH,nI,nJ,nK,nL,nM,nN,nO,nP,nQ,nR,nS,nT,nU,nV,nW,nX,nY,nZ,gA,gB,gC,gD,gE,gF,gG,gH,gI,gJ,gK,gL,gM,gN,gO,gP,gQ,gR,gS,gT,gU,gV,gW,gX,gY,gZ,fA,fB,fC,fD,fE,fF,fG,fH,fI,fJ,fK,fL,fM,fN,fO,fP,fQ,fR,fS,fT,fU,fV,fW,fX,fY,fZ,dA,dB,dC,dD,dE,dF,dG,dH,dI,dJ,dK,dL,dM,dN,dO,dP,dQ,dR,dS,dT,dU,dV,dW,dX,dY,dZ,cA,cB,cC,cD,cE,cF,cG,cH,cI,cJ,cK], defers := [] } w := by
 conv => arg 2; whnf
 refine st_intro (fun Q2 hQ2 => ?_)
 replace hQ2 := hid hQ2
 replace hm := hid hm
 go_wp2_with fail
 refine (longs_any _ _).mono ?_; rintro e wl ⟨rfl, rfl⟩
 go_wp2_with fail
 refine (cCostA _ _ _ _ _ (hm.out.ext exE) (litN [297, 0, 3, 250] (by simp) rfl)).mono ?_; rintro e u ⟨rfl, hE⟩
 have x : Ext w u := exE
 clear hE
 go_wp2_with fail
 rw [hQ2.out]
 refine ⟨rfl, _, _, _, _, _, _, _, _, rfl, exE, by simp [go_sem], by simp [go_sem]⟩
set_option maxHeartbeats 40000000 in
theorem stW3 {yA yC yD yE yF yG yH yI yJ yK yL yM yN yO yP yQ yR yS yT yU yV yW yX yY yZ zA zB zC zD zE zF zG zH zI zJ zK zL zM zN zO zP zQ zR zS zT zU zV zW zX zY zZ uA uB uC uD uE uF uG uH uI uJ uK uL uM uN uO uP uQ uR uS uT uU uV uW uX uY uZ iA iB iC iD iE iF iG iH iI iJ iK iL iM iN iO iP iQ iR iS iT iU iV iW iX iY iZ oA oB oC oD oE oF oG oH oI oJ oK oL oM oN oO oP oQ oR oS oT oU oV oW oX oY oZ qA qB qC qD qE qF qG qH qI qJ qK qL qM qN qO qP qQ qR qS qT qU qV qW qX qY qZ rA rB rC rD rE rF rG rH rI rJ rK rL rM rN rO rP rQ rR rS rT rU rV rW rX rY rZ jA jB jC jD jE jF jG jH jI jJ jK jL jM jN jO jP jQ jR jS jT jU jV jW jX jY jZ nA nB nC nD nE nF nG nH nI nJ nK nL nM nN nO nP nQ nR nS nT nU nV nW nX nY nZ gA gB gC gD gE gF gG gH gI gJ gK gL gM gN gO gP gQ gR gS gT gU gV gW gX gY gZ fA fB fC fD fE fF fG fH fI fJ fK fL fM fN fO fP fQ fR fS fT fU fV fW fX fY fZ dA dB dC dD dE dF dG dH dI dJ dK dL dM dN dO dP dQ dR dS dT dU dV dW dX dY dZ cA cB cC cD cE cF cG cH cI cJ cK : Value} {gm : Nat} {w : World} (hm : Mts w (some ⟨gm, 0, none⟩) mL) :
 Code.wp Try.prog (rgn Try.f18 3) (fun e a' w' => e = .normal ∧ ∃ (B6 : Nat) (uD' uE' uF' uG' uH' uI' uJ' : Value), a' = { tmps := #[yA,.slice (some ⟨gm, 0, none⟩) 4 4,yC,yD,yE,yF,.pointer (some ⟨B6, 0, none⟩),.int .i64 2,yI,yJ,yK,yL,yM,yN,yO,yP,yQ,yR,yS,yT,yU,yV,yW,yX,yY,yZ,zA,zB,zC,zD,zE,zF,zG,zH,zI,zJ,zK,zL,zM,zN,zO,zP,zQ,zR,zS,zT,zU,zV,zW,zX,zY,zZ,uA,uB,uC,uD',uE',uF',uG',uH',uI',uJ',uK,uL,uM,uN,uO,uP,uQ,uR,uS,uT,uU,uV,uW,uX,uY,uZ,iA,iB,iC,iD,iE,iF,iG,iH,iI,iJ,iK,iL,iM,iN,iO,iP,iQ,iR,iS,iT,iU,iV,iW,iX,iY,iZ,oA,oB,oC,oD,oE,oF,oG,oH,oI,oJ,oK,oL,oM,oN,oO,oP,oQ,oR,oS,oT,oU,oV,oW,oX,oY,oZ,qA,qB,qC,qD,qE,qF,qG,qH,qI,qJ,qK,qL,qM,qN,qO,qP,qQ,qR,qS,qT,qU,qV,qW,qX,qY,qZ,rA,rB,rC,rD,rE,rF,rG,rH,rI,rJ,rK,rL,rM,rN,rO,rP,rQ,rR,rS,rT,rU,rV,rW,rX,rY,rZ,jA,jB,jC,jD,jE,jF,jG,jH,jI,jJ,jK,jL,jM,jN,jO,jP,jQ,jR,jS,jT,jU,jV,jW,jX,jY,jZ,nA,nB,nC,nD,nE,nF,nG,nH,nI,nJ,nK,nL,nM,nN,nO,nP,nQ,nR,nS,nT,nU,nV,nW,nX,nY,nZ,gA,gB,gC,gD,gE,gF,gG,gH,gI,gJ,gK,gL,gM,gN,gO,gP,gQ,gR,gS,gT,gU,gV,gW,gX,gY,gZ,fA,fB,fC,fD,fE,fF,fG,fH,fI,fJ,fK,fL,fM,fN,fO,fP,fQ,fR,fS,fT,fU,fV,fW,fX,fY,fZ,dA,dB,dC,dD,dE,dF,dG,dH,dI,dJ,dK,dL,dM,dN,dO,dP,dQ,dR,dS,dT,dU,dV,dW,dX,dY,dZ,cA,cB,cC,cD,cE,cF,cG,cH,cI,cJ,cK], defers := [] } ∧ Ext w w' ∧ w'.cell? ⟨B6, 0, none⟩ = some (.int .i64 0) ∧ w'.cell? ⟨B6, 1, none⟩ = some (.int .i64 0)) { tmps := #[yA,.slice (some ⟨gm, 0, none⟩) 4 4,yC,yD,yE,yF,yG,yH,yI,yJ,yK,yL,yM,yN,yO,yP,yQ,yR,yS,yT,yU,yV,yW,yX,yY,yZ,zA,zB,zC,zD,zE,zF,zG,zH,zI,zJ,zK,zL,zM,zN,zO,zP,zQ,zR,zS,zT,zU,zV,zW,zX,zY,zZ,uA,uB,uC,uD,uE,uF,uG,uH,uI,uJ,uK,uL,uM,uN,uO,uP,uQ,uR,uS,uT,uU,uV,uW,uX,uY,uZ,iA,iB,iC,iD,iE,iF,iG,iH,iI,iJ,iK,iL,iM,iN,iO,iP,iQ,iR,iS,iT,iU,iV,iW,iX,iY,iZ,oA,oB,oC,oD,oE,oF,oG,oH,oI,oJ,oK,oL,oM,oN,oO,oP,oQ,oR,oS,oT,oU,oV,oW,oX,oY,oZ,qA,qB,qC,qD,qE,qF,qG,qH,qI,qJ,qK,qL,qM,qN,qO,qP,qQ,qR,qS,qT,qU,qV,qW,qX,qY,qZ,rA,rB,rC,rD,rE,rF,rG,rH,rI,rJ,rK,rL,rM,rN,rO,rP,rQ,rR,rS,rT,rU,rV,rW,rX,rY,rZ,jA,jB,jC,jD,jE,jF,jG,jH,jI,jJ,jK,jL,jM,jN,jO,jP,jQ,jR,jS,jT,jU,jV,jW,jX,jY,jZ,nA,nB,nC,nD,nE,nF,nG,nH,nI,nJ,nK,nL,nM,nN,nO,nP,nQ,nR,nS,nT,nU,nV,nW,nX,nY,nZ,gA,gB,gC,gD,gE,gF,gG,gH,gI,gJ,gK,gL,gM,gN,gO,gP,gQ,gR,gS,gT,gU,gV,gW,gX,gY,gZ,fA,fB,fC,fD,fE,fF,fG,fH,fI,fJ,fK,fL,fM,fN,fO,fP,fQ,fR,fS,fT,fU,fV,fW,fX,fY,fZ,dA,dB,dC,dD,dE,dF,dG,dH,dI,dJ,dK,dL,dM,dN,dO,dP,dQ,dR,dS,dT,dU,dV,dW,dX,dY,dZ,cA,cB,cC,cD,cE,cF,cG,cH,cI,cJ,cK], defers := [] } w := by
 conv => arg 2; whnf
 refine st_intro (fun Q2 hQ2 => ?_)
 replace hQ2 := hid hQ2
 replace hm := hid hm
 go_wp2_with fail
 refine (longs_any _ _).mono ?_; rintro e wl ⟨rfl, rfl⟩
 go_wp2_with fail
 refine (cCostB _ _ _ _ _ (hm.out.ext exE) (litN [0, 0, 0, 0] (by simp) rfl)).mono ?_; rintro e u ⟨rfl, hE⟩
 have x : Ext w u := exE
 clear hE
 go_wp2_with fail
 rw [hQ2.out]
 refine ⟨rfl, _, _, _, _, _, _, _, _, rfl, exE, by simp [go_sem], by simp [go_sem]⟩
set_option maxHeartbeats 40000000 in
theorem stW4 {yA yC yD yE yF yG yH yI yJ yK yL yM yN yO yP yQ yR yS yT yU yV yW yX yY yZ zA zB zC zD zE zF zG zH zI zJ zK zL zM zN zO zP zQ zR zS zT zU zV zW zX zY zZ uA uB uC uD uE uF uG uH uI uJ uK uL uM uN uO uP uQ uR uS uT uU uV uW uX uY uZ iA iB iC iD iE iF iG iH iI iJ iK iL iM iN iO iP iQ iR iS iT iU iV iW iX iY iZ oA oB oC oD oE oF oG oH oI oJ oK oL oM oN oO oP oQ oR oS oT oU oV oW oX oY oZ qA qB qC qD qE qF qG qH qI qJ qK qL qM qN qO qP qQ qR qS qT qU qV qW qX qY qZ rA rB rC rD rE rF rG rH rI rJ rK rL rM rN rO rP rQ rR rS rT rU rV rW rX rY rZ jA jB jC jD jE jF jG jH jI jJ jK jL jM jN jO jP jQ jR jS jT jU jV jW jX jY jZ nA nB nC nD nE nF nG nH nI nJ nK nL nM nN nO nP nQ nR nS nT nU nV nW nX nY nZ gA gB gC gD gE gF gG gH gI gJ gK gL gM gN gO gP gQ gR gS gT gU gV gW gX gY gZ fA fB fC fD fE fF fG fH fI fJ fK fL fM fN fO fP fQ fR fS fT fU fV fW fX fY fZ dA dB dC dD dE dF dG dH dI dJ dK dL dM dN dO dP dQ dR dS dT dU dV dW dX dY dZ cA cB cC cD cE cF cG cH cI cJ cK : Value} {gm : Nat} {w : World} (hm : Mts w (some ⟨gm, 0, none⟩) mL) :
 Code.wp Try.prog (rgn Try.f18 4) (fun e a' w' => e = .normal ∧ ∃ (B8 : Nat) (uK' uL' uM' uN' uO' uP' uQ' : Value), a' = { tmps := #[yA,.slice (some ⟨gm, 0, none⟩) 4 4,yC,yD,yE,yF,yG,yH,.pointer (some ⟨B8, 0, none⟩),.int .i64 15,yK,yL,yM,yN,yO,yP,yQ,yR,yS,yT,yU,yV,yW,yX,yY,yZ,zA,zB,zC,zD,zE,zF,zG,zH,zI,zJ,zK,zL,zM,zN,zO,zP,zQ,zR,zS,zT,zU,zV,zW,zX,zY,zZ,uA,uB,uC,uD,uE,uF,uG,uH,uI,uJ,uK',uL',uM',uN',uO',uP',uQ',uR,uS,uT,uU,uV,uW,uX,uY,uZ,iA,iB,iC,iD,iE,iF,iG,iH,iI,iJ,iK,iL,iM,iN,iO,iP,iQ,iR,iS,iT,iU,iV,iW,iX,iY,iZ,oA,oB,oC,oD,oE,oF,oG,oH,oI,oJ,oK,oL,oM,oN,oO,oP,oQ,oR,oS,oT,oU,oV,oW,oX,oY,oZ,qA,qB,qC,qD,qE,qF,qG,qH,qI,qJ,qK,qL,qM,qN,qO,qP,qQ,qR,qS,qT,qU,qV,qW,qX,qY,qZ,rA,rB,rC,rD,rE,rF,rG,rH,rI,rJ,rK,rL,rM,rN,rO,rP,rQ,rR,rS,rT,rU,rV,rW,rX,rY,rZ,jA,jB,jC,jD,jE,jF,jG,jH,jI,jJ,jK,jL,jM,jN,jO,jP,jQ,jR,jS,jT,jU,jV,jW,jX,jY,jZ,nA,nB,nC,nD,nE,nF,nG,nH,nI,nJ,nK,nL,nM,nN,nO,nP,nQ,nR,nS,nT,nU,nV,nW,nX,nY,nZ,gA,gB,gC,gD,gE,gF,gG,gH,gI,gJ,gK,gL,gM,gN,gO,gP,gQ,gR,gS,gT,gU,gV,gW,gX,gY,gZ,fA,fB,fC,fD,fE,fF,fG,fH,fI,fJ,fK,fL,fM,fN,fO,fP,fQ,fR,fS,fT,fU,fV,fW,fX,fY,fZ,dA,dB,dC,dD,dE,dF,dG,dH,dI,dJ,dK,dL,dM,dN,dO,dP,dQ,dR,dS,dT,dU,dV,dW,dX,dY,dZ,cA,cB,cC,cD,cE,cF,cG,cH,cI,cJ,cK], defers := [] } ∧ Ext w w' ∧ w'.cell? ⟨B8, 0, none⟩ = some (.int .i64 0) ∧ w'.cell? ⟨B8, 1, none⟩ = some (.int .i64 0)) { tmps := #[yA,.slice (some ⟨gm, 0, none⟩) 4 4,yC,yD,yE,yF,yG,yH,yI,yJ,yK,yL,yM,yN,yO,yP,yQ,yR,yS,yT,yU,yV,yW,yX,yY,yZ,zA,zB,zC,zD,zE,zF,zG,zH,zI,zJ,zK,zL,zM,zN,zO,zP,zQ,zR,zS,zT,zU,zV,zW,zX,zY,zZ,uA,uB,uC,uD,uE,uF,uG,uH,uI,uJ,uK,uL,uM,uN,uO,uP,uQ,uR,uS,uT,uU,uV,uW,uX,uY,uZ,iA,iB,iC,iD,iE,iF,iG,iH,iI,iJ,iK,iL,iM,iN,iO,iP,iQ,iR,iS,iT,iU,iV,iW,iX,iY,iZ,oA,oB,oC,oD,oE,oF,oG,oH,oI,oJ,oK,oL,oM,oN,oO,oP,oQ,oR,oS,oT,oU,oV,oW,oX,oY,oZ,qA,qB,qC,qD,qE,qF,qG,qH,qI,qJ,qK,qL,qM,qN,qO,qP,qQ,qR,qS,qT,qU,qV,qW,qX,qY,qZ,rA,rB,rC,rD,rE,rF,rG,rH,rI,rJ,rK,rL,rM,rN,rO,rP,rQ,rR,rS,rT,rU,rV,rW,rX,rY,rZ,jA,jB,jC,jD,jE,jF,jG,jH,jI,jJ,jK,jL,jM,jN,jO,jP,jQ,jR,jS,jT,jU,jV,jW,jX,jY,jZ,nA,nB,nC,nD,nE,nF,nG,nH,nI,nJ,nK,nL,nM,nN,nO,nP,nQ,nR,nS,nT,nU,nV,nW,nX,nY,nZ,gA,gB,gC,gD,gE,gF,gG,gH,gI,gJ,gK,gL,gM,gN,gO,gP,gQ,gR,gS,gT,gU,gV,gW,gX,gY,gZ,fA,fB,fC,fD,fE,fF,fG,fH,fI,fJ,fK,fL,fM,fN,fO,fP,fQ,fR,fS,fT,fU,fV,fW,fX,fY,fZ,dA,dB,dC,dD,dE,dF,dG,dH,dI,dJ,dK,dL,dM,dN,dO,dP,dQ,dR,dS,dT,dU,dV,dW,dX,dY,dZ,cA,cB,cC,cD,cE,cF,cG,cH,cI,cJ,cK], defers := [] } w := by
 conv => arg 2; whnf
 refine st_intro (fun Q2 hQ2 => ?_)
 replace hQ2 := hid hQ2
 replace hm := hid hm
 go_wp2_with fail
 refine (longs_any _ _).mono ?_; rintro e wl ⟨rfl, rfl⟩
 go_wp2_with fail
 refine (cCostC _ _ _ _ _ (hm.out.ext exE) (litN [1, 1] (by simp) rfl)).mono ?_; rintro e u ⟨rfl, hE⟩
 have x : Ext w u := exE
 clear hE
 go_wp2_with fail
 rw [hQ2.out]
 refine ⟨rfl, _, _, _, _, _, _, _, _, rfl, exE, by simp [go_sem], by simp [go_sem]⟩
set_option maxHeartbeats 40000000 in
theorem stW5 {yA yC yD yE yF yG yH yI yJ yK yL yM yN yO yP yQ yR yS yT yU yV yW yX yY yZ zA zB zC zD zE zF zG zH zI zJ zK zL zM zN zO zP zQ zR zS zT zU zV zW zX zY zZ uA uB uC uD uE uF uG uH uI uJ uK uL uM uN uO uP uQ uR uS uT uU uV uW uX uY uZ iA iB iC iD iE iF iG iH iI iJ iK iL iM iN iO iP iQ iR iS iT iU iV iW iX iY iZ oA oB oC oD oE oF oG oH oI oJ oK oL oM oN oO oP oQ oR oS oT oU oV oW oX oY oZ qA qB qC qD qE qF qG qH qI qJ qK qL qM qN qO qP qQ qR qS qT qU qV qW qX qY qZ rA rB rC rD rE rF rG rH rI rJ rK rL rM rN rO rP rQ rR rS rT rU rV rW rX rY rZ jA jB jC jD jE jF jG jH jI jJ jK jL jM jN jO jP jQ jR jS jT jU jV jW jX jY jZ nA nB nC nD nE nF nG nH nI nJ nK nL nM nN nO nP nQ nR nS nT nU nV nW nX nY nZ gA gB gC gD gE gF gG gH gI gJ gK gL gM gN gO gP gQ gR gS gT gU gV gW gX gY gZ fA fB fC fD fE fF fG fH fI fJ fK fL fM fN fO fP fQ fR fS fT fU fV fW fX fY fZ dA dB dC dD dE dF dG dH dI dJ dK dL dM dN dO dP dQ dR dS dT dU dV dW dX dY dZ cA cB cC cD cE cF cG cH cI cJ cK : Value} {gm : Nat} {w : World} (hm : Mts w (some ⟨gm, 0, none⟩) mL) :
 Code.wp Try.prog (rgn Try.f18 5) (fun e a' w' => e = .normal ∧ ∃ (B10 : Nat) (B11 : Nat) (uR' uS' uT' uU' uV' uW' uX' uY' : Value), a' = { tmps := #[yA,.slice (some ⟨gm, 0, none⟩) 4 4,yC,yD,yE,yF,yG,yH,yI,yJ,.pointer (some ⟨B10, 0, none⟩),.pointer (some ⟨B11, 0, none⟩),.int .i64 0,yN,yO,yP,yQ,yR,yS,yT,yU,yV,yW,yX,yY,yZ,zA,zB,zC,zD,zE,zF,zG,zH,zI,zJ,zK,zL,zM,zN,zO,zP,zQ,zR,zS,zT,zU,zV,zW,zX,zY,zZ,uA,uB,uC,uD,uE,uF,uG,uH,uI,uJ,uK,uL,uM,uN,uO,uP,uQ,uR',uS',uT',uU',uV',uW',uX',uY',uZ,iA,iB,iC,iD,iE,iF,iG,iH,iI,iJ,iK,iL,iM,iN,iO,iP,iQ,iR,iS,iT,iU,iV,iW,iX,iY,iZ,oA,oB,oC,oD,oE,oF,oG,oH,oI,oJ,oK,oL,oM,oN,oO,oP,oQ,oR,oS,oT,oU,oV,oW,oX,oY,oZ,qA,qB,qC,qD,qE,qF,qG,qH,qI,qJ,qK,qL,qM,qN,qO,qP,qQ,qR,qS,qT,qU,qV,qW,qX,qY,qZ,rA,rB,rC,rD,rE,rF,rG,rH,rI,rJ,rK,rL,rM,rN,rO,rP,rQ,rR,rS,rT,rU,rV,rW,rX,rY,rZ,jA,jB,jC,jD,jE,jF,jG,jH,jI,jJ,jK,jL,jM,jN,jO,jP,jQ,jR,jS,jT,jU,jV,jW,jX,jY,jZ,nA,nB,nC,nD,nE,nF,nG,nH,nI,nJ,nK,nL,nM,nN,nO,nP,nQ,nR,nS,nT,nU,nV,nW,nX,nY,nZ,gA,gB,gC,gD,gE,gF,gG,gH,gI,gJ,gK,gL,gM,gN,gO,gP,gQ,gR,gS,gT,gU,gV,gW,gX,gY,gZ,fA,fB,fC,fD,fE,fF,fG,fH,fI,fJ,fK,fL,fM,fN,fO,fP,fQ,fR,fS,fT,fU,fV,fW,fX,fY,fZ,dA,dB,dC,dD,dE,dF,dG,dH,dI,dJ,dK,dL,dM,dN,dO,dP,dQ,dR,dS,dT,dU,dV,dW,dX,dY,dZ,cA,cB,cC,cD,cE,cF,cG,cH,cI,cJ,cK], defers := [] } ∧ Ext w w' ∧ w'.cell? ⟨B10, 0, none⟩ = some (.int .i64 180) ∧ w'.cell? ⟨B10, 1, none⟩ = some (.int .i64 1) ∧ w'.cell? ⟨B11, 0, none⟩ = some (.int .i64 220) ∧ w'.cell? ⟨B11, 1, none⟩ = some (.int .i64 1)) { tmps := #[yA,.slice (some ⟨gm, 0, none⟩) 4 4,yC,yD,yE,yF,yG,yH,yI,yJ,yK,yL,yM,yN,yO,yP,yQ,yR,yS,yT,yU,yV,yW,yX,yY,yZ,zA,zB,zC,zD,zE,zF,zG,zH,zI,zJ,zK,zL,zM,zN,zO,zP,zQ,zR,zS,zT,zU,zV,zW,zX,zY,zZ,uA,uB,uC,uD,uE,uF,uG,uH,uI,uJ,uK,uL,uM,uN,uO,uP,uQ,uR,uS,uT,uU,uV,uW,uX,uY,uZ,iA,iB,iC,iD,iE,iF,iG,iH,iI,iJ,iK,iL,iM,iN,iO,iP,iQ,iR,iS,iT,iU,iV,iW,iX,iY,iZ,oA,oB,oC,oD,oE,oF,oG,oH,oI,oJ,oK,oL,oM,oN,oO,oP,oQ,oR,oS,oT,oU,oV,oW,oX,oY,oZ,qA,qB,qC,qD,qE,qF,qG,qH,qI,qJ,qK,qL,qM,qN,qO,qP,qQ,qR,qS,qT,qU,qV,qW,qX,qY,qZ,rA,rB,rC,rD,rE,rF,rG,rH,rI,rJ,rK,rL,rM,rN,rO,rP,rQ,rR,rS,rT,rU,rV,rW,rX,rY,rZ,jA,jB,jC,jD,jE,jF,jG,jH,jI,jJ,jK,jL,jM,jN,jO,jP,jQ,jR,jS,jT,jU,jV,jW,jX,jY,jZ,nA,nB,nC,nD,nE,nF,nG,nH,nI,nJ,nK,nL,nM,nN,nO,nP,nQ,nR,nS,nT,nU,nV,nW,nX,nY,nZ,gA,gB,gC,gD,gE,gF,gG,gH,gI,gJ,gK,gL,gM,gN,gO,gP,gQ,gR,gS,gT,gU,gV,gW,gX,gY,gZ,fA,fB,fC,fD,fE,fF,fG,fH,fI,fJ,fK,fL,fM,fN,fO,fP,fQ,fR,fS,fT,fU,fV,fW,fX,fY,fZ,dA,dB,dC,dD,dE,dF,dG,dH,dI,dJ,dK,dL,dM,dN,dO,dP,dQ,dR,dS,dT,dU,dV,dW,dX,dY,dZ,cA,cB,cC,cD,cE,cF,cG,cH,cI,cJ,cK], defers := [] } w := by
 conv => arg 2; whnf
 refine st_intro (fun Q2 hQ2 => ?_)
 replace hQ2 := hid hQ2
 replace hm := hid hm
 go_wp2_with fail
 refine (longs_any _ _).mono ?_; rintro e wl ⟨rfl, rfl⟩
 go_wp2_with fail
 refine (cEnds _ _ _ _ _ (hm.out.ext exE) (litN [0, 0, 0, 1] (by simp) rfl)).mono ?_; rintro e u ⟨rfl, hE⟩
 have x : Ext w u := exE
 clear hE
 go_wp2_with fail
 rw [hQ2.out]
 refine ⟨rfl, _, _, _, _, _, _, _, _, _, _, rfl, exE, by simp [go_sem], by simp [go_sem], by simp [go_sem], by simp [go_sem]⟩
set_option maxHeartbeats 40000000 in
theorem stW8 {yA yC yE yF yG yH yI yJ yK yL yM yN yO yP yQ yR yS yT yU yV yW yX yY yZ zA zB zC zD zE zF zG zH zI zJ zK zL zM zN zO zP zQ zR zS zT zU zV zW zX zY zZ uA uB uC uD uE uF uG uH uI uJ uK uL uM uN uO uP uQ uR uS uT uU uV uW uX uY uZ iA iB iC iD iE iF iG iH iI iJ iK iL iM iN iO iP iQ iR iS iT iU iV iW iX iY iZ oA oB oC oD oE oF oG oH oI oJ oK oL oM oN oO oP oQ oR oS oT oU oV oW oX oY oZ qA qB qC qD qE qF qG qH qI qJ qK qL qM qN qO qP qQ qR qS qT qU qV qW qX qY qZ rA rB rC rD rE rF rG rH rI rJ rK rL rM rN rO rP rQ rR rS rT rU rV rW rX rY rZ jA jB jC jD jE jF jG jH jI jJ jK jL jM jN jO jP jQ jR jS jT jU jV jW jX jY jZ nA nB nC nD nE nF nG nH nI nJ nK nL nM nN nO nP nQ nR nS nT nU nV nW nX nY nZ gA gB gC gD gE gF gG gH gI gJ gK gL gM gN gO gP gQ gR gS gT gU gV gW gX gY gZ fA fB fC fD fE fF fG fH fI fJ fK fL fM fN fO fP fQ fR fS fT fU fV fW fX fY fZ dA dB dC dD dE dF dG dH dI dJ dK dL dM dN dO dP dQ dR dS dT dU dV dW dX dY dZ cA cB cC cD cE cF cG cH cI cJ cK : Value} {gm T : Nat} {w : World} (hm : Mts w (some ⟨gm, 0, none⟩) mL) (t0 : w.cell? ⟨T, 0, none⟩ = some (.int .i64 100)) (t1 : w.cell? ⟨T, 1, none⟩ = some (.int .i64 10)) :
 Code.wp Try.prog (rgn Try.f18 8) (fun e a' w' => e = .normal ∧ ∃ (B17 : Nat) (iT' iU' iV' iW' iX' iY' : Value), a' = { tmps := #[yA,.slice (some ⟨gm, 0, none⟩) 4 4,yC,.pointer (some ⟨T, 0, none⟩),yE,yF,yG,yH,yI,yJ,yK,yL,yM,yN,yO,yP,yQ,.pointer (some ⟨B17, 0, none⟩),.int .i64 0,yT,yU,yV,yW,yX,yY,yZ,zA,zB,zC,zD,zE,zF,zG,zH,zI,zJ,zK,zL,zM,zN,zO,zP,zQ,zR,zS,zT,zU,zV,zW,zX,zY,zZ,uA,uB,uC,uD,uE,uF,uG,uH,uI,uJ,uK,uL,uM,uN,uO,uP,uQ,uR,uS,uT,uU,uV,uW,uX,uY,uZ,iA,iB,iC,iD,iE,iF,iG,iH,iI,iJ,iK,iL,iM,iN,iO,iP,iQ,iR,iS,iT',iU',iV',iW',iX',iY',iZ,oA,oB,oC,oD,oE,oF,oG,oH,oI,oJ,oK,oL,oM,oN,oO,oP,oQ,oR,oS,oT,oU,oV,oW,oX,oY,oZ,qA,qB,qC,qD,qE,qF,qG,qH,qI,qJ,qK,qL,qM,qN,qO,qP,qQ,qR,qS,qT,qU,qV,qW,qX,qY,qZ,rA,rB,rC,rD,rE,rF,rG,rH,rI,rJ,rK,rL,rM,rN,rO,rP,rQ,rR,rS,rT,rU,rV,rW,rX,rY,rZ,jA,jB,jC,jD,jE,jF,jG,jH,jI,jJ,jK,jL,jM,jN,jO,jP,jQ,jR,jS,jT,jU,jV,jW,jX,jY,jZ,nA,nB,nC,nD,nE,nF,nG,nH,nI,nJ,nK,nL,nM,nN,nO,nP,nQ,nR,nS,nT,nU,nV,nW,nX,nY,nZ,gA,gB,gC,gD,gE,gF,gG,gH,gI,gJ,gK,gL,gM,gN,gO,gP,gQ,gR,gS,gT,gU,gV,gW,gX,gY,gZ,fA,fB,fC,fD,fE,fF,fG,fH,fI,fJ,fK,fL,fM,fN,fO,fP,fQ,fR,fS,fT,fU,fV,fW,fX,fY,fZ,dA,dB,dC,dD,dE,dF,dG,dH,dI,dJ,dK,dL,dM,dN,dO,dP,dQ,dR,dS,dT,dU,dV,dW,dX,dY,dZ,cA,cB,cC,cD,cE,cF,cG,cH,cI,cJ,cK], defers := [] } ∧ Ext w w' ∧ w'.cell? ⟨B17, 0, none⟩ = some (.int .i64 3959) ∧ w'.cell? ⟨B17, 1, none⟩ = some (.int .i64 55)) { tmps := #[yA,.slice (some ⟨gm, 0, none⟩) 4 4,yC,.pointer (some ⟨T, 0, none⟩),yE,yF,yG,yH,yI,yJ,yK,yL,yM,yN,yO,yP,yQ,yR,yS,yT,yU,yV,yW,yX,yY,yZ,zA,zB,zC,zD,zE,zF,zG,zH,zI,zJ,zK,zL,zM,zN,zO,zP,zQ,zR,zS,zT,zU,zV,zW,zX,zY,zZ,uA,uB,uC,uD,uE,uF,uG,uH,uI,uJ,uK,uL,uM,uN,uO,uP,uQ,uR,uS,uT,uU,uV,uW,uX,uY,uZ,iA,iB,iC,iD,iE,iF,iG,iH,iI,iJ,iK,iL,iM,iN,iO,iP,iQ,iR,iS,iT,iU,iV,iW,iX,iY,iZ,oA,oB,oC,oD,oE,oF,oG,oH,oI,oJ,oK,oL,oM,oN,oO,oP,oQ,oR,oS,oT,oU,oV,oW,oX,oY,oZ,qA,qB,qC,qD,qE,qF,qG,qH,qI,qJ,qK,qL,qM,qN,qO,qP,qQ,qR,qS,qT,qU,qV,qW,qX,qY,qZ,rA,rB,rC,rD,rE,rF,rG,rH,rI,rJ,rK,rL,rM,rN,rO,rP,rQ,rR,rS,rT,rU,rV,rW,rX,rY,rZ,jA,jB,jC,jD,jE,jF,jG,jH,jI,jJ,jK,jL,jM,jN,jO,jP,jQ,jR,jS,jT,jU,jV,jW,jX,jY,jZ,nA,nB,nC,nD,nE,nF,nG,nH,nI,nJ,nK,nL,nM,nN,nO,nP,nQ,nR,nS,nT,nU,nV,nW,nX,nY,nZ,gA,gB,gC,gD,gE,gF,gG,gH,gI,gJ,gK,gL,gM,gN,gO,gP,gQ,gR,gS,gT,gU,gV,gW,gX,gY,gZ,fA,fB,fC,fD,fE,fF,fG,fH,fI,fJ,fK,fL,fM,fN,fO,fP,fQ,fR,fS,fT,fU,fV,fW,fX,fY,fZ,dA,dB,dC,dD,dE,dF,dG,dH,dI,dJ,dK,dL,dM,dN,dO,dP,dQ,dR,dS,dT,dU,dV,dW,dX,dY,dZ,cA,cB,cC,cD,cE,cF,cG,cH,cI,cJ,cK], defers := [] } w := by
 conv => arg 2; whnf
 refine st_intro (fun Q2 hQ2 => ?_)
 replace hQ2 := hid hQ2
 replace hm := hid hm
 have lT := cell_lt t0
 dsimp only at lT
 go_wp2_with fail
 refine (cLst1 _ _ _ (hm.out.ext exE)).mono ?_; rintro e u ⟨rfl, hE⟩
 have x : Ext w u := exE
 clear hE
 go_wp2_with fail
 rw [hQ2.out]
 refine ⟨rfl, _, _, _, _, _, _, _, rfl, exE, by simp [go_sem], by simp [go_sem]⟩
set_option maxHeartbeats 40000000 in
theorem stW9 {yA yC yE yF yG yH yI yJ yK yL yM yN yO yP yQ yR yS yT yU yV yW yX yY yZ zA zB zC zD zE zF zG zH zI zJ zK zL zM zN zO zP zQ zR zS zT zU zV zW zX zY zZ uA uB uC uD uE uF uG uH uI uJ uK uL uM uN uO uP uQ uR uS uT uU uV uW uX uY uZ iA iB iC iD iE iF iG iH iI iJ iK iL iM iN iO iP iQ iR iS iT iU iV iW iX iY iZ oA oB oC oD oE oF oG oH oI oJ oK oL oM oN oO oP oQ oR oS oT oU oV oW oX oY oZ qA qB qC qD qE qF qG qH qI qJ qK qL qM qN qO qP qQ qR qS qT qU qV qW qX qY qZ rA rB rC rD rE rF rG rH rI rJ rK rL rM rN rO rP rQ rR rS rT rU rV rW rX rY rZ jA jB jC jD jE jF jG jH jI jJ jK jL jM jN jO jP jQ jR jS jT jU jV jW jX jY jZ nA nB nC nD nE nF nG nH nI nJ nK nL nM nN nO nP nQ nR nS nT nU nV nW nX nY nZ gA gB gC gD gE gF gG gH gI gJ gK gL gM gN gO gP gQ gR gS gT gU gV gW gX gY gZ fA fB fC fD fE fF fG fH fI fJ fK fL fM fN fO fP fQ fR fS fT fU fV fW fX fY fZ dA dB dC dD dE dF dG dH dI dJ dK dL dM dN dO dP dQ dR dS dT dU dV dW dX dY dZ cA cB cC cD cE cF cG cH cI cJ cK : Value} {gm T : Nat} {w : World} (hm : Mts w (some ⟨gm, 0, none⟩) mL) (t0 : w.cell? ⟨T, 0, none⟩ = some (.int .i64 100)) (t1 : w.cell? ⟨T, 1, none⟩ = some (.int .i64 10)) :
 Code.wp Try.prog (rgn Try.f18 9) (fun e a' w' => e = .normal ∧ ∃ (B19 : Nat) (iZ' oA' oB' oC' oD' oE' : Value), a' = { tmps := #[yA,.slice (some ⟨gm, 0, none⟩) 4 4,yC,.pointer (some ⟨T, 0, none⟩),yE,yF,yG,yH,yI,yJ,yK,yL,yM,yN,yO,yP,yQ,yR,yS,.pointer (some ⟨B19, 0, none⟩),.int .i64 0,yV,yW,yX,yY,yZ,zA,zB,zC,zD,zE,zF,zG,zH,zI,zJ,zK,zL,zM,zN,zO,zP,zQ,zR,zS,zT,zU,zV,zW,zX,zY,zZ,uA,uB,uC,uD,uE,uF,uG,uH,uI,uJ,uK,uL,uM,uN,uO,uP,uQ,uR,uS,uT,uU,uV,uW,uX,uY,uZ,iA,iB,iC,iD,iE,iF,iG,iH,iI,iJ,iK,iL,iM,iN,iO,iP,iQ,iR,iS,iT,iU,iV,iW,iX,iY,iZ',oA',oB',oC',oD',oE',oF,oG,oH,oI,oJ,oK,oL,oM,oN,oO,oP,oQ,oR,oS,oT,oU,oV,oW,oX,oY,oZ,qA,qB,qC,qD,qE,qF,qG,qH,qI,qJ,qK,qL,qM,qN,qO,qP,qQ,qR,qS,qT,qU,qV,qW,qX,qY,qZ,rA,rB,rC,rD,rE,rF,rG,rH,rI,rJ,rK,rL,rM,rN,rO,rP,rQ,rR,rS,rT,rU,rV,rW,rX,rY,rZ,jA,jB,jC,jD,jE,jF,jG,jH,jI,jJ,jK,jL,jM,jN,jO,jP,jQ,jR,jS,jT,jU,jV,jW,jX,jY,jZ,nA,nB,nC,nD,nE,nF,nG,nH,nI,nJ,nK,nL,nM,nN,nO,nP,nQ,nR,nS,nT,nU,nV,nW,nX,nY,nZ,gA,gB,gC,gD,gE,gF,gG,gH,gI,gJ,gK,gL,gM,gN,gO,gP,gQ,gR,gS,gT,gU,gV,gW,gX,gY,gZ,fA,fB,fC,fD,fE,fF,fG,fH,fI,fJ,fK,fL,fM,fN,fO,fP,fQ,fR,fS,fT,fU,fV,fW,fX,fY,fZ,dA,dB,dC,dD,dE,dF,dG,dH,dI,dJ,dK,dL,dM,dN,dO,dP,dQ,dR,dS,dT,dU,dV,dW,dX,dY,dZ,cA,cB,cC,cD,cE,cF,cG,cH,cI,cJ,cK], defers := [] } ∧ Ext w w' ∧ w'.cell? ⟨B19, 0, none⟩ = some (.int .i64 610) ∧ w'.cell? ⟨B19, 1, none⟩ = some (.int .i64 9)) { tmps := #[yA,.slice (some ⟨gm, 0, none⟩) 4 4,yC,.pointer (some ⟨T, 0, none⟩),yE,yF,yG,yH,yI,yJ,yK,yL,yM,yN,yO,yP,yQ,yR,yS,yT,yU,yV,yW,yX,yY,yZ,zA,zB,zC,zD,zE,zF,zG,zH,zI,zJ,zK,zL,zM,zN,zO,zP,zQ,zR,zS,zT,zU,zV,zW,zX,zY,zZ,uA,uB,uC,uD,uE,uF,uG,uH,uI,uJ,uK,uL,uM,uN,uO,uP,uQ,uR,uS,uT,uU,uV,uW,uX,uY,uZ,iA,iB,iC,iD,iE,iF,iG,iH,iI,iJ,iK,iL,iM,iN,iO,iP,iQ,iR,iS,iT,iU,iV,iW,iX,iY,iZ,oA,oB,oC,oD,oE,oF,oG,oH,oI,oJ,oK,oL,oM,oN,oO,oP,oQ,oR,oS,oT,oU,oV,oW,oX,oY,oZ,qA,qB,qC,qD,qE,qF,qG,qH,qI,qJ,qK,qL,qM,qN,qO,qP,qQ,qR,qS,qT,qU,qV,qW,qX,qY,qZ,rA,rB,rC,rD,rE,rF,rG,rH,rI,rJ,rK,rL,rM,rN,rO,rP,rQ,rR,rS,rT,rU,rV,rW,rX,rY,rZ,jA,jB,jC,jD,jE,jF,jG,jH,jI,jJ,jK,jL,jM,jN,jO,jP,jQ,jR,jS,jT,jU,jV,jW,jX,jY,jZ,nA,nB,nC,nD,nE,nF,nG,nH,nI,nJ,nK,nL,nM,nN,nO,nP,nQ,nR,nS,nT,nU,nV,nW,nX,nY,nZ,gA,gB,gC,gD,gE,gF,gG,gH,gI,gJ,gK,gL,gM,gN,gO,gP,gQ,gR,gS,gT,gU,gV,gW,gX,gY,gZ,fA,fB,fC,fD,fE,fF,fG,fH,fI,fJ,fK,fL,fM,fN,fO,fP,fQ,fR,fS,fT,fU,fV,fW,fX,fY,fZ,dA,dB,dC,dD,dE,dF,dG,dH,dI,dJ,dK,dL,dM,dN,dO,dP,dQ,dR,dS,dT,dU,dV,dW,dX,dY,dZ,cA,cB,cC,cD,cE,cF,cG,cH,cI,cJ,cK], defers := [] } w := by
 conv => arg 2; whnf
 refine st_intro (fun Q2 hQ2 => ?_)
 replace hQ2 := hid hQ2
 replace hm := hid hm
 have lT := cell_lt t0
 dsimp only at lT
 go_wp2_with fail
 refine (cLst2 _ _ _ (hm.out.ext exE)).mono ?_; rintro e u ⟨rfl, hE⟩
 have x : Ext w u := exE
 clear hE
 go_wp2_with fail
 rw [hQ2.out]
 refine ⟨rfl, _, _, _, _, _, _, _, rfl, exE, by simp [go_sem], by simp [go_sem]⟩
set_option maxHeartbeats 40000000 in
theorem stW10 {yA yB yE yF yG yH yI yJ yK yL yM yN yO yP yQ yR yS yT yU yV yW yX yY yZ zA zB zC zD zE zF zG zH zI zJ zK zL zM zN zO zP zQ zR zS zT zU zV zW zX zY zZ uA uB uC uD uE uF uG uH uI uJ uK uL uM uN uO uP uQ uR uS uT uU uV uW uX uY uZ iA iB iC iD iE iF iG iH iI iJ iK iL iM iN iO iP iQ iR iS iT iU iV iW iX iY iZ oA oB oC oD oE oF oG oH oI oJ oK oL oM oN oO oP oQ oR oS oT oU oV oW oX oY oZ qA qB qC qD qE qF qG qH qI qJ qK qL qM qN qO qP qQ qR qS qT qU qV qW qX qY qZ rA rB rC rD rE rF rG rH rI rJ rK rL rM rN rO rP rQ rR rS rT rU rV rW rX rY rZ jA jB jC jD jE jF jG jH jI jJ jK jL jM jN jO jP jQ jR jS jT jU jV jW jX jY jZ nA nB nC nD nE nF nG nH nI nJ nK nL nM nN nO nP nQ nR nS nT nU nV nW nX nY nZ gA gB gC gD gE gF gG gH gI gJ gK gL gM gN gO gP gQ gR gS gT gU gV gW gX gY gZ fA fB fC fD fE fF fG fH fI fJ fK fL fM fN fO fP fQ fR fS fT fU fV fW fX fY fZ dA dB dC dD dE dF dG dH dI dJ dK dL dM dN dO dP dQ dR dS dT dU dV dW dX dY dZ cA cB cC cD cE cF cG cH cI cJ cK : Value} {gv T : Nat} {w : World} (hv : Mts w (some ⟨gv, 0, none⟩) vL) (t0 : w.cell? ⟨T, 0, none⟩ = some (.int .i64 100)) (t1 : w.cell? ⟨T, 1, none⟩ = some (.int .i64 10)) :
 Code.wp Try.prog (rgn Try.f18 10) (fun e a' w' => e = .normal ∧ ∃ (B21 : Nat) (oF' oG' oH' oI' oJ' oK' : Value), a' = { tmps := #[yA,yB,.slice (some ⟨gv, 0, none⟩) 2 2,.pointer (some ⟨T, 0, none⟩),yE,yF,yG,yH,yI,yJ,yK,yL,yM,yN,yO,yP,yQ,yR,yS,yT,yU,.pointer (some ⟨B21, 0, none⟩),.int .i64 17,yX,yY,yZ,zA,zB,zC,zD,zE,zF,zG,zH,zI,zJ,zK,zL,zM,zN,zO,zP,zQ,zR,zS,zT,zU,zV,zW,zX,zY,zZ,uA,uB,uC,uD,uE,uF,uG,uH,uI,uJ,uK,uL,uM,uN,uO,uP,uQ,uR,uS,uT,uU,uV,uW,uX,uY,uZ,iA,iB,iC,iD,iE,iF,iG,iH,iI,iJ,iK,iL,iM,iN,iO,iP,iQ,iR,iS,iT,iU,iV,iW,iX,iY,iZ,oA,oB,oC,oD,oE,oF',oG',oH',oI',oJ',oK',oL,oM,oN,oO,oP,oQ,oR,oS,oT,oU,oV,oW,oX,oY,oZ,qA,qB,qC,qD,qE,qF,qG,qH,qI,qJ,qK,qL,qM,qN,qO,qP,qQ,qR,qS,qT,qU,qV,qW,qX,qY,qZ,rA,rB,rC,rD,rE,rF,rG,rH,rI,rJ,rK,rL,rM,rN,rO,rP,rQ,rR,rS,rT,rU,rV,rW,rX,rY,rZ,jA,jB,jC,jD,jE,jF,jG,jH,jI,jJ,jK,jL,jM,jN,jO,jP,jQ,jR,jS,jT,jU,jV,jW,jX,jY,jZ,nA,nB,nC,nD,nE,nF,nG,nH,nI,nJ,nK,nL,nM,nN,nO,nP,nQ,nR,nS,nT,nU,nV,nW,nX,nY,nZ,gA,gB,gC,gD,gE,gF,gG,gH,gI,gJ,gK,gL,gM,gN,gO,gP,gQ,gR,gS,gT,gU,gV,gW,gX,gY,gZ,fA,fB,fC,fD,fE,fF,fG,fH,fI,fJ,fK,fL,fM,fN,fO,fP,fQ,fR,fS,fT,fU,fV,fW,fX,fY,fZ,dA,dB,dC,dD,dE,dF,dG,dH,dI,dJ,dK,dL,dM,dN,dO,dP,dQ,dR,dS,dT,dU,dV,dW,dX,dY,dZ,cA,cB,cC,cD,cE,cF,cG,cH,cI,cJ,cK], defers := [] } ∧ Ext w w' ∧ w'.cell? ⟨B21, 0, none⟩ = some (.int .i64 0) ∧ w'.cell? ⟨B21, 1, none⟩ = some (.int .i64 0)) { tmps := #[yA,yB,.slice (some ⟨gv, 0, none⟩) 2 2,.pointer (some ⟨T, 0, none⟩),yE,yF,yG,yH,yI,yJ,yK,yL,yM,yN,yO,yP,yQ,yR,yS,yT,yU,yV,yW,yX,yY,yZ,zA,zB,zC,zD,zE,zF,zG,zH,zI,zJ,zK,zL,zM,zN,zO,zP,zQ,zR,zS,zT,zU,zV,zW,zX,zY,zZ,uA,uB,uC,uD,uE,uF,uG,uH,uI,uJ,uK,uL,uM,uN,uO,uP,uQ,uR,uS,uT,uU,uV,uW,uX,uY,uZ,iA,iB,iC,iD,iE,iF,iG,iH,iI,iJ,iK,iL,iM,iN,iO,iP,iQ,iR,iS,iT,iU,iV,iW,iX,iY,iZ,oA,oB,oC,oD,oE,oF,oG,oH,oI,oJ,oK,oL,oM,oN,oO,oP,oQ,oR,oS,oT,oU,oV,oW,oX,oY,oZ,qA,qB,qC,qD,qE,qF,qG,qH,qI,qJ,qK,qL,qM,qN,qO,qP,qQ,qR,qS,qT,qU,qV,qW,qX,qY,qZ,rA,rB,rC,rD,rE,rF,rG,rH,rI,rJ,rK,rL,rM,rN,rO,rP,rQ,rR,rS,rT,rU,rV,rW,rX,rY,rZ,jA,jB,jC,jD,jE,jF,jG,jH,jI,jJ,jK,jL,jM,jN,jO,jP,jQ,jR,jS,jT,jU,jV,jW,jX,jY,jZ,nA,nB,nC,nD,nE,nF,nG,nH,nI,nJ,nK,nL,nM,nN,nO,nP,nQ,nR,nS,nT,nU,nV,nW,nX,nY,nZ,gA,gB,gC,gD,gE,gF,gG,gH,gI,gJ,gK,gL,gM,gN,gO,gP,gQ,gR,gS,gT,gU,gV,gW,gX,gY,gZ,fA,fB,fC,fD,fE,fF,fG,fH,fI,fJ,fK,fL,fM,fN,fO,fP,fQ,fR,fS,fT,fU,fV,fW,fX,fY,fZ,dA,dB,dC,dD,dE,dF,dG,dH,dI,dJ,dK,dL,dM,dN,dO,dP,dQ,dR,dS,dT,dU,dV,dW,dX,dY,dZ,cA,cB,cC,cD,cE,cF,cG,cH,cI,cJ,cK], defers := [] } w := by
 conv => arg 2; whnf
 refine st_intro (fun Q2 hQ2 => ?_)
 replace hQ2 := hid hQ2
 replace hv := hid hv
 have lT := cell_lt t0
 dsimp only at lT
 go_wp2_with fail
 refine (cLst3 _ _ _ (hv.out.ext exE)).mono ?_; rintro e u ⟨rfl, hE⟩
 have x : Ext w u := exE
 clear hE
 go_wp2_with fail
 rw [hQ2.out]
 refine ⟨rfl, _, _, _, _, _, _, _, rfl, exE, by simp [go_sem], by simp [go_sem]⟩
set_option maxHeartbeats 40000000 in
theorem stW11 {yA yC yE yF yG yH yI yJ yK yL yM yN yO yP yQ yR yS yT yU yV yW yX yY yZ zA zB zC zD zE zF zG zH zI zJ zK zL zM zN zO zP zQ zR zS zT zU zV zW zX zY zZ uA uB uC uD uE uF uG uH uI uJ uK uL uM uN uO uP uQ uR uS uT uU uV uW uX uY uZ iA iB iC iD iE iF iG iH iI iJ iK iL iM iN iO iP iQ iR iS iT iU iV iW iX iY iZ oA oB oC oD oE oF oG oH oI oJ oK oL oM oN oO oP oQ oR oS oT oU oV oW oX oY oZ qA qB qC qD qE qF qG qH qI qJ qK qL qM qN qO qP qQ qR qS qT qU qV qW qX qY qZ rA rB rC rD rE rF rG rH rI rJ rK rL rM rN rO rP rQ rR rS rT rU rV rW rX rY rZ jA jB jC jD jE jF jG jH jI jJ jK jL jM jN jO jP jQ jR jS jT jU jV jW jX jY jZ nA nB nC nD nE nF nG nH nI nJ nK nL nM nN nO nP nQ nR nS nT nU nV nW nX nY nZ gA gB gC gD gE gF gG gH gI gJ gK gL gM gN gO gP gQ gR gS gT gU gV gW gX gY gZ fA fB fC fD fE fF fG fH fI fJ fK fL fM fN fO fP fQ fR fS fT fU fV fW fX fY fZ dA dB dC dD dE dF dG dH dI dJ dK dL dM dN dO dP dQ dR dS dT dU dV dW dX dY dZ cA cB cC cD cE cF cG cH cI cJ cK : Value} {gm T : Nat} {w : World} (hm : Mts w (some ⟨gm, 0, none⟩) mL) (t0 : w.cell? ⟨T, 0, none⟩ = some (.int .i64 100)) (t1 : w.cell? ⟨T, 1, none⟩ = some (.int .i64 10)) :
 Code.wp Try.prog (rgn Try.f18 11) (fun e a' w' => e = .normal ∧ ∃ (al : Option Addr) (cl : Nat) (oL' oM' oN' oO' oP' oQ' : Value), a' = { tmps := #[yA,.slice (some ⟨gm, 0, none⟩) 4 4,yC,.pointer (some ⟨T, 0, none⟩),yE,yF,yG,yH,yI,yJ,yK,yL,yM,yN,yO,yP,yQ,yR,yS,yT,yU,yV,yW,.slice al 4 cl,.int .i64 0,yZ,zA,zB,zC,zD,zE,zF,zG,zH,zI,zJ,zK,zL,zM,zN,zO,zP,zQ,zR,zS,zT,zU,zV,zW,zX,zY,zZ,uA,uB,uC,uD,uE,uF,uG,uH,uI,uJ,uK,uL,uM,uN,uO,uP,uQ,uR,uS,uT,uU,uV,uW,uX,uY,uZ,iA,iB,iC,iD,iE,iF,iG,iH,iI,iJ,iK,iL,iM,iN,iO,iP,iQ,iR,iS,iT,iU,iV,iW,iX,iY,iZ,oA,oB,oC,oD,oE,oF,oG,oH,oI,oJ,oK,oL',oM',oN',oO',oP',oQ',oR,oS,oT,oU,oV,oW,oX,oY,oZ,qA,qB,qC,qD,qE,qF,qG,qH,qI,qJ,qK,qL,qM,qN,qO,qP,qQ,qR,qS,qT,qU,qV,qW,qX,qY,qZ,rA,rB,rC,rD,rE,rF,rG,rH,rI,rJ,rK,rL,rM,rN,rO,rP,rQ,rR,rS,rT,rU,rV,rW,rX,rY,rZ,jA,jB,jC,jD,jE,jF,jG,jH,jI,jJ,jK,jL,jM,jN,jO,jP,jQ,jR,jS,jT,jU,jV,jW,jX,jY,jZ,nA,nB,nC,nD,nE,nF,nG,nH,nI,nJ,nK,nL,nM,nN,nO,nP,nQ,nR,nS,nT,nU,nV,nW,nX,nY,nZ,gA,gB,gC,gD,gE,gF,gG,gH,gI,gJ,gK,gL,gM,gN,gO,gP,gQ,gR,gS,gT,gU,gV,gW,gX,gY,gZ,fA,fB,fC,fD,fE,fF,fG,fH,fI,fJ,fK,fL,fM,fN,fO,fP,fQ,fR,fS,fT,fU,fV,fW,fX,fY,fZ,dA,dB,dC,dD,dE,dF,dG,dH,dI,dJ,dK,dL,dM,dN,dO,dP,dQ,dR,dS,dT,dU,dV,dW,dX,dY,dZ,cA,cB,cC,cD,cE,cF,cG,cH,cI,cJ,cK], defers := [] } ∧ Ext w w' ∧ Ints w' al [118800, 0, 1200, 100000]) { tmps := #[yA,.slice (some ⟨gm, 0, none⟩) 4 4,yC,.pointer (some ⟨T, 0, none⟩),yE,yF,yG,yH,yI,yJ,yK,yL,yM,yN,yO,yP,yQ,yR,yS,yT,yU,yV,yW,yX,yY,yZ,zA,zB,zC,zD,zE,zF,zG,zH,zI,zJ,zK,zL,zM,zN,zO,zP,zQ,zR,zS,zT,zU,zV,zW,zX,zY,zZ,uA,uB,uC,uD,uE,uF,uG,uH,uI,uJ,uK,uL,uM,uN,uO,uP,uQ,uR,uS,uT,uU,uV,uW,uX,uY,uZ,iA,iB,iC,iD,iE,iF,iG,iH,iI,iJ,iK,iL,iM,iN,iO,iP,iQ,iR,iS,iT,iU,iV,iW,iX,iY,iZ,oA,oB,oC,oD,oE,oF,oG,oH,oI,oJ,oK,oL,oM,oN,oO,oP,oQ,oR,oS,oT,oU,oV,oW,oX,oY,oZ,qA,qB,qC,qD,qE,qF,qG,qH,qI,qJ,qK,qL,qM,qN,qO,qP,qQ,qR,qS,qT,qU,qV,qW,qX,qY,qZ,rA,rB,rC,rD,rE,rF,rG,rH,rI,rJ,rK,rL,rM,rN,rO,rP,rQ,rR,rS,rT,rU,rV,rW,rX,rY,rZ,jA,jB,jC,jD,jE,jF,jG,jH,jI,jJ,jK,jL,jM,jN,jO,jP,jQ,jR,jS,jT,jU,jV,jW,jX,jY,jZ,nA,nB,nC,nD,nE,nF,nG,nH,nI,nJ,nK,nL,nM,nN,nO,nP,nQ,nR,nS,nT,nU,nV,nW,nX,nY,nZ,gA,gB,gC,gD,gE,gF,gG,gH,gI,gJ,gK,gL,gM,gN,gO,gP,gQ,gR,gS,gT,gU,gV,gW,gX,gY,gZ,fA,fB,fC,fD,fE,fF,fG,fH,fI,fJ,fK,fL,fM,fN,fO,fP,fQ,fR,fS,fT,fU,fV,fW,fX,fY,fZ,dA,dB,dC,dD,dE,dF,dG,dH,dI,dJ,dK,dL,dM,dN,dO,dP,dQ,dR,dS,dT,dU,dV,dW,dX,dY,dZ,cA,cB,cC,cD,cE,cF,cG,cH,cI,cJ,cK], defers := [] } w := by
 conv => arg 2; whnf
 refine st_intro (fun Q2 hQ2 => ?_)
 replace hQ2 := hid hQ2
 replace hm := hid hm
 have lT := cell_lt t0
 dsimp only at lT
 go_wp2_with fail
 refine (cChp _ _ _ (hm.out.ext exE)).mono ?_; rintro e u ⟨al, cl, rfl, hI, hE⟩
 have x : Ext w u := exE
 clear hE
 go_wp2_with fail
 rw [hQ2.out]
 refine ⟨rfl, _, _, _, _, _, _, _, _, rfl, exE, hI⟩
set_option maxHeartbeats 40000000 in
theorem stW14 {yA yC yE yF yG yH yI yJ yK yL yM yN yO yP yQ yR yS yT yU yV yW yX yY yZ zA zB zC zD zE zF zG zH zI zJ zK zL zM zN zO zP zQ zR zS zT zU zV zW zX zY zZ uA uB uC uD uE uF uG uH uI uJ uK uL uM uN uO uP uQ uR uS uT uU uV uW uX uY uZ iA iB iC iD iE iF iG iH iI iJ iK iL iM iN iO iP iQ iR iS iT iU iV iW iX iY iZ oA oB oC oD oE oF oG oH oI oJ oK oL oM oN oO oP oQ oR oS oT oU oV oW oX oY oZ qA qB qC qD qE qF qG qH qI qJ qK qL qM qN qO qP qQ qR qS qT qU qV qW qX qY qZ rA rB rC rD rE rF rG rH rI rJ rK rL rM rN rO rP rQ rR rS rT rU rV rW rX rY rZ jA jB jC jD jE jF jG jH jI jJ jK jL jM jN jO jP jQ jR jS jT jU jV jW jX jY jZ nA nB nC nD nE nF nG nH nI nJ nK nL nM nN nO nP nQ nR nS nT nU nV nW nX nY nZ gA gB gC gD gE gF gG gH gI gJ gK gL gM gN gO gP gQ gR gS gT gU gV gW gX gY gZ fA fB fC fD fE fF fG fH fI fJ fK fL fM fN fO fP fQ fR fS fT fU fV fW fX fY fZ dA dB dC dD dE dF dG dH dI dJ dK dL dM dN dO dP dQ dR dS dT dU dV dW dX dY dZ cA cB cC cD cE cF cG cH cI cJ cK : Value} {gm T : Nat} {w : World} (hm : Mts w (some ⟨gm, 0, none⟩) mL) (t0 : w.cell? ⟨T, 0, none⟩ = some (.int .i64 100)) (t1 : w.cell? ⟨T, 1, none⟩ = some (.int .i64 10)) :
 Code.wp Try.prog (rgn Try.f18 14) (fun e a' w' => e = .normal ∧ ∃ (B29 : Nat) (qF' qG' qH' qI' qJ' qK' : Value), a' = { tmps := #[yA,.slice (some ⟨gm, 0, none⟩) 4 4,yC,.pointer (some ⟨T, 0, none⟩),yE,yF,yG,yH,yI,yJ,yK,yL,yM,yN,yO,yP,yQ,yR,yS,yT,yU,yV,yW,yX,yY,yZ,zA,zB,zC,.pointer (some ⟨B29, 0, none⟩),.int .i64 0,zF,zG,zH,zI,zJ,zK,zL,zM,zN,zO,zP,zQ,zR,zS,zT,zU,zV,zW,zX,zY,zZ,uA,uB,uC,uD,uE,uF,uG,uH,uI,uJ,uK,uL,uM,uN,uO,uP,uQ,uR,uS,uT,uU,uV,uW,uX,uY,uZ,iA,iB,iC,iD,iE,iF,iG,iH,iI,iJ,iK,iL,iM,iN,iO,iP,iQ,iR,iS,iT,iU,iV,iW,iX,iY,iZ,oA,oB,oC,oD,oE,oF,oG,oH,oI,oJ,oK,oL,oM,oN,oO,oP,oQ,oR,oS,oT,oU,oV,oW,oX,oY,oZ,qA,qB,qC,qD,qE,qF',qG',qH',qI',qJ',qK',qL,qM,qN,qO,qP,qQ,qR,qS,qT,qU,qV,qW,qX,qY,qZ,rA,rB,rC,rD,rE,rF,rG,rH,rI,rJ,rK,rL,rM,rN,rO,rP,rQ,rR,rS,rT,rU,rV,rW,rX,rY,rZ,jA,jB,jC,jD,jE,jF,jG,jH,jI,jJ,jK,jL,jM,jN,jO,jP,jQ,jR,jS,jT,jU,jV,jW,jX,jY,jZ,nA,nB,nC,nD,nE,nF,nG,nH,nI,nJ,nK,nL,nM,nN,nO,nP,nQ,nR,nS,nT,nU,nV,nW,nX,nY,nZ,gA,gB,gC,gD,gE,gF,gG,gH,gI,gJ,gK,gL,gM,gN,gO,gP,gQ,gR,gS,gT,gU,gV,gW,gX,gY,gZ,fA,fB,fC,fD,fE,fF,fG,fH,fI,fJ,fK,fL,fM,fN,fO,fP,fQ,fR,fS,fT,fU,fV,fW,fX,fY,fZ,dA,dB,dC,dD,dE,dF,dG,dH,dI,dJ,dK,dL,dM,dN,dO,dP,dQ,dR,dS,dT,dU,dV,dW,dX,dY,dZ,cA,cB,cC,cD,cE,cF,cG,cH,cI,cJ,cK], defers := [] } ∧ Ext w w' ∧ w'.cell? ⟨B29, 0, none⟩ = some (.int .i64 220000) ∧ w'.cell? ⟨B29, 1, none⟩ = some (.int .i64 19800000) ∧ w'.cell? ⟨B29, 2, none⟩ = some (.int .i64 40300) ∧ w'.cell? ⟨B29, 3, none⟩ = some (.int .i64 6600)) { tmps := #[yA,.slice (some ⟨gm, 0, none⟩) 4 4,yC,.pointer (some ⟨T, 0, none⟩),yE,yF,yG,yH,yI,yJ,yK,yL,yM,yN,yO,yP,yQ,yR,yS,yT,yU,yV,yW,yX,yY,yZ,zA,zB,zC,zD,zE,zF,zG,zH,zI,zJ,zK,zL,zM,zN,zO,zP,zQ,zR,zS,zT,zU,zV,zW,zX,zY,zZ,uA,uB,uC,uD,uE,uF,uG,uH,uI,uJ,uK,uL,uM,uN,uO,uP,uQ,uR,uS,uT,uU,uV,uW,uX,uY,uZ,iA,iB,iC,iD,iE,iF,iG,iH,iI,iJ,iK,iL,iM,iN,iO,iP,iQ,iR,iS,iT,iU,iV,iW,iX,iY,iZ,oA,oB,oC,oD,oE,oF,oG,oH,oI,oJ,oK,oL,oM,oN,oO,oP,oQ,oR,oS,oT,oU,oV,oW,oX,oY,oZ,qA,qB,qC,qD,qE,qF,qG,qH,qI,qJ,qK,qL,qM,qN,qO,qP,qQ,qR,qS,qT,qU,qV,qW,qX,qY,qZ,rA,rB,rC,rD,rE,rF,rG,rH,rI,rJ,rK,rL,rM,rN,rO,rP,rQ,rR,rS,rT,rU,rV,rW,rX,rY,rZ,jA,jB,jC,jD,jE,jF,jG,jH,jI,jJ,jK,jL,jM,jN,jO,jP,jQ,jR,jS,jT,jU,jV,jW,jX,jY,jZ,nA,nB,nC,nD,nE,nF,nG,nH,nI,nJ,nK,nL,nM,nN,nO,nP,nQ,nR,nS,nT,nU,nV,nW,nX,nY,nZ,gA,gB,gC,gD,gE,gF,gG,gH,gI,gJ,gK,gL,gM,gN,gO,gP,gQ,gR,gS,gT,gU,gV,gW,gX,gY,gZ,fA,fB,fC,fD,fE,fF,fG,fH,fI,fJ,fK,fL,fM,fN,fO,fP,fQ,fR,fS,fT,fU,fV,fW,fX,fY,fZ,dA,dB,dC,dD,dE,dF,dG,dH,dI,dJ,dK,dL,dM,dN,dO,dP,dQ,dR,dS,dT,dU,dV,dW,dX,dY,dZ,cA,cB,cC,cD,cE,cF,cG,cH,cI,cJ,cK], defers := [] } w := by
 conv => arg 2; whnf
 refine st_intro (fun Q2 hQ2 => ?_)
 replace hQ2 := hid hQ2
 replace hm := hid hm
 have lT := cell_lt t0
 dsimp only at lT
 go_wp2_with fail
 refine (cPro _ _ _ (hm.out.ext exE)).mono ?_; rintro e u ⟨rfl, hE⟩
 have x : Ext w u := exE
 clear hE
 go_wp2_with fail
 rw [hQ2.out]
 refine ⟨rfl, _, _, _, _, _, _, _, rfl, exE, by simp [go_sem], by simp [go_sem], by simp [go_sem], by simp [go_sem]⟩
set_option maxHeartbeats 40000000 in
theorem stW16 {yA yB yE yF yG yH yI yJ yK yL yM yN yO yP yQ yR yS yT yU yV yW yX yY yZ zA zB zC zD zE zF zG zH zI zJ zK zL zM zN zO zP zQ zR zS zT zU zV zW zX zY zZ uA uB uC uD uE uF uG uH uI uJ uK uL uM uN uO uP uQ uR uS uT uU uV uW uX uY uZ iA iB iC iD iE iF iG iH iI iJ iK iL iM iN iO iP iQ iR iS iT iU iV iW iX iY iZ oA oB oC oD oE oF oG oH oI oJ oK oL oM oN oO oP oQ oR oS oT oU oV oW oX oY oZ qA qB qC qD qE qF qG qH qI qJ qK qL qM qN qO qP qQ qR qS qT qU qV qW qX qY qZ rA rB rC rD rE rF rG rH rI rJ rK rL rM rN rO rP rQ rR rS rT rU rV rW rX rY rZ jA jB jC jD jE jF jG jH jI jJ jK jL jM jN jO jP jQ jR jS jT jU jV jW jX jY jZ nA nB nC nD nE nF nG nH nI nJ nK nL nM nN nO nP nQ nR nS nT nU nV nW nX nY nZ gA gB gC gD gE gF gG gH gI gJ gK gL gM gN gO gP gQ gR gS gT gU gV gW gX gY gZ fA fB fC fD fE fF fG fH fI fJ fK fL fM fN fO fP fQ fR fS fT fU fV fW fX fY fZ dA dB dC dD dE dF dG dH dI dJ dK dL dM dN dO dP dQ dR dS dT dU dV dW dX dY dZ cA cB cC cD cE cF cG cH cI cJ cK : Value} {gv T : Nat} {w : World} (hv : Mts w (some ⟨gv, 0, none⟩) vL) (t0 : w.cell? ⟨T, 0, none⟩ = some (.int .i64 100)) (t1 : w.cell? ⟨T, 1, none⟩ = some (.int .i64 10)) :
 Code.wp Try.prog (rgn Try.f18 16) (fun e a' w' => e = .normal ∧ ∃ (B33 : Nat) (qT' qU' qV' qW' qX' qY' : Value), a' = { tmps := #[yA,yB,.slice (some ⟨gv, 0, none⟩) 2 2,.pointer (some ⟨T, 0, none⟩),yE,yF,yG,yH,yI,yJ,yK,yL,yM,yN,yO,yP,yQ,yR,yS,yT,yU,yV,yW,yX,yY,yZ,zA,zB,zC,zD,zE,zF,zG,.pointer (some ⟨B33, 0, none⟩),.int .i64 0,zJ,zK,zL,zM,zN,zO,zP,zQ,zR,zS,zT,zU,zV,zW,zX,zY,zZ,uA,uB,uC,uD,uE,uF,uG,uH,uI,uJ,uK,uL,uM,uN,uO,uP,uQ,uR,uS,uT,uU,uV,uW,uX,uY,uZ,iA,iB,iC,iD,iE,iF,iG,iH,iI,iJ,iK,iL,iM,iN,iO,iP,iQ,iR,iS,iT,iU,iV,iW,iX,iY,iZ,oA,oB,oC,oD,oE,oF,oG,oH,oI,oJ,oK,oL,oM,oN,oO,oP,oQ,oR,oS,oT,oU,oV,oW,oX,oY,oZ,qA,qB,qC,qD,qE,qF,qG,qH,qI,qJ,qK,qL,qM,qN,qO,qP,qQ,qR,qS,qT',qU',qV',qW',qX',qY',qZ,rA,rB,rC,rD,rE,rF,rG,rH,rI,rJ,rK,rL,rM,rN,rO,rP,rQ,rR,rS,rT,rU,rV,rW,rX,rY,rZ,jA,jB,jC,jD,jE,jF,jG,jH,jI,jJ,jK,jL,jM,jN,jO,jP,jQ,jR,jS,jT,jU,jV,jW,jX,jY,jZ,nA,nB,nC,nD,nE,nF,nG,nH,nI,nJ,nK,nL,nM,nN,nO,nP,nQ,nR,nS,nT,nU,nV,nW,nX,nY,nZ,gA,gB,gC,gD,gE,gF,gG,gH,gI,gJ,gK,gL,gM,gN,gO,gP,gQ,gR,gS,gT,gU,gV,gW,gX,gY,gZ,fA,fB,fC,fD,fE,fF,fG,fH,fI,fJ,fK,fL,fM,fN,fO,fP,fQ,fR,fS,fT,fU,fV,fW,fX,fY,fZ,dA,dB,dC,dD,dE,dF,dG,dH,dI,dJ,dK,dL,dM,dN,dO,dP,dQ,dR,dS,dT,dU,dV,dW,dX,dY,dZ,cA,cB,cC,cD,cE,cF,cG,cH,cI,cJ,cK], defers := [] } ∧ Ext w w' ∧ w'.cell? ⟨B33, 0, none⟩ = some (.int .i64 0) ∧ w'.cell? ⟨B33, 1, none⟩ = some (.int .i64 220) ∧ w'.cell? ⟨B33, 2, none⟩ = some (.int .i64 1) ∧ w'.cell? ⟨B33, 3, none⟩ = some (.int .i64 0)) { tmps := #[yA,yB,.slice (some ⟨gv, 0, none⟩) 2 2,.pointer (some ⟨T, 0, none⟩),yE,yF,yG,yH,yI,yJ,yK,yL,yM,yN,yO,yP,yQ,yR,yS,yT,yU,yV,yW,yX,yY,yZ,zA,zB,zC,zD,zE,zF,zG,zH,zI,zJ,zK,zL,zM,zN,zO,zP,zQ,zR,zS,zT,zU,zV,zW,zX,zY,zZ,uA,uB,uC,uD,uE,uF,uG,uH,uI,uJ,uK,uL,uM,uN,uO,uP,uQ,uR,uS,uT,uU,uV,uW,uX,uY,uZ,iA,iB,iC,iD,iE,iF,iG,iH,iI,iJ,iK,iL,iM,iN,iO,iP,iQ,iR,iS,iT,iU,iV,iW,iX,iY,iZ,oA,oB,oC,oD,oE,oF,oG,oH,oI,oJ,oK,oL,oM,oN,oO,oP,oQ,oR,oS,oT,oU,oV,oW,oX,oY,oZ,qA,qB,qC,qD,qE,qF,qG,qH,qI,qJ,qK,qL,qM,qN,qO,qP,qQ,qR,qS,qT,qU,qV,qW,qX,qY,qZ,rA,rB,rC,rD,rE,rF,rG,rH,rI,rJ,rK,rL,rM,rN,rO,rP,rQ,rR,rS,rT,rU,rV,rW,rX,rY,rZ,jA,jB,jC,jD,jE,jF,jG,jH,jI,jJ,jK,jL,jM,jN,jO,jP,jQ,jR,jS,jT,jU,jV,jW,jX,jY,jZ,nA,nB,nC,nD,nE,nF,nG,nH,nI,nJ,nK,nL,nM,nN,nO,nP,nQ,nR,nS,nT,nU,nV,nW,nX,nY,nZ,gA,gB,gC,gD,gE,gF,gG,gH,gI,gJ,gK,gL,gM,gN,gO,gP,gQ,gR,gS,gT,gU,gV,gW,gX,gY,gZ,fA,fB,fC,fD,fE,fF,fG,fH,fI,fJ,fK,fL,fM,fN,fO,fP,fQ,fR,fS,fT,fU,fV,fW,fX,fY,fZ,dA,dB,dC,dD,dE,dF,dG,dH,dI,dJ,dK,dL,dM,dN,dO,dP,dQ,dR,dS,dT,dU,dV,dW,dX,dY,dZ,cA,cB,cC,cD,cE,cF,cG,cH,cI,cJ,cK], defers := [] } w := by
 conv => arg 2; whnf
 refine st_intro (fun Q2 hQ2 => ?_)
 replace hQ2 := hid hQ2
 replace hv := hid hv
 have lT := cell_lt t0
 dsimp only at lT
 go_wp2_with fail
 refine (cNev1 _ _ _ (hv.out.ext exE)).mono ?_; rintro e u ⟨rfl, hE⟩
 have x : Ext w u := exE
 clear hE
 go_wp2_with fail
 rw [hQ2.out]
 refine ⟨rfl, _, _, _, _, _, _, _, rfl, exE, by simp [go_sem], by simp [go_sem], by simp [go_sem], by simp [go_sem]⟩
set_option maxHeartbeats 40000000 in
theorem stW17 {yA yC yE yF yG yH yI yJ yK yL yM yN yO yP yQ yR yS yT yU yV yW yX yY yZ zA zB zC zD zE zF zG zH zI zJ zK zL zM zN zO zP zQ zR zS zT zU zV zW zX zY zZ uA uB uC uD uE uF uG uH uI uJ uK uL uM uN uO uP uQ uR uS uT uU uV uW uX uY uZ iA iB iC iD iE iF iG iH iI iJ iK iL iM iN iO iP iQ iR iS iT iU iV iW iX iY iZ oA oB oC oD oE oF oG oH oI oJ oK oL oM oN oO oP oQ oR oS oT oU oV oW oX oY oZ qA qB qC qD qE qF qG qH qI qJ qK qL qM qN qO qP qQ qR qS qT qU qV qW qX qY qZ rA rB rC rD rE rF rG rH rI rJ rK rL rM rN rO rP rQ rR rS rT rU rV rW rX rY rZ jA jB jC jD jE jF jG jH jI jJ jK jL jM jN jO jP jQ jR jS jT jU jV jW jX jY jZ nA nB nC nD nE nF nG nH nI nJ nK nL nM nN nO nP nQ nR nS nT nU nV nW nX nY nZ gA gB gC gD gE gF gG gH gI gJ gK gL gM gN gO gP gQ gR gS gT gU gV gW gX gY gZ fA fB fC fD fE fF fG fH fI fJ fK fL fM fN fO fP fQ fR fS fT fU fV fW fX fY fZ dA dB dC dD dE dF dG dH dI dJ dK dL dM dN dO dP dQ dR dS dT dU dV dW dX dY dZ cA cB cC cD cE cF cG cH cI cJ cK : Value} {gm T : Nat} {w : World} (hm : Mts w (some ⟨gm, 0, none⟩) mL) (t0 : w.cell? ⟨T, 0, none⟩ = some (.int .i64 100)) (t1 : w.cell? ⟨T, 1, none⟩ = some (.int .i64 10)) :
 Code.wp Try.prog (rgn Try.f18 17) (fun e a' w' => e = .normal ∧ ∃ (B35 : Nat) (qZ' rA' rB' rC' rD' rE' : Value), a' = { tmps := #[yA,.slice (some ⟨gm, 0, none⟩) 4 4,yC,.pointer (some ⟨T, 0, none⟩),yE,yF,yG,yH,yI,yJ,yK,yL,yM,yN,yO,yP,yQ,yR,yS,yT,yU,yV,yW,yX,yY,yZ,zA,zB,zC,zD,zE,zF,zG,zH,zI,.pointer (some ⟨B35, 0, none⟩),.int .i64 5,zL,zM,zN,zO,zP,zQ,zR,zS,zT,zU,zV,zW,zX,zY,zZ,uA,uB,uC,uD,uE,uF,uG,uH,uI,uJ,uK,uL,uM,uN,uO,uP,uQ,uR,uS,uT,uU,uV,uW,uX,uY,uZ,iA,iB,iC,iD,iE,iF,iG,iH,iI,iJ,iK,iL,iM,iN,iO,iP,iQ,iR,iS,iT,iU,iV,iW,iX,iY,iZ,oA,oB,oC,oD,oE,oF,oG,oH,oI,oJ,oK,oL,oM,oN,oO,oP,oQ,oR,oS,oT,oU,oV,oW,oX,oY,oZ,qA,qB,qC,qD,qE,qF,qG,qH,qI,qJ,qK,qL,qM,qN,qO,qP,qQ,qR,qS,qT,qU,qV,qW,qX,qY,qZ',rA',rB',rC',rD',rE',rF,rG,rH,rI,rJ,rK,rL,rM,rN,rO,rP,rQ,rR,rS,rT,rU,rV,rW,rX,rY,rZ,jA,jB,jC,jD,jE,jF,jG,jH,jI,jJ,jK,jL,jM,jN,jO,jP,jQ,jR,jS,jT,jU,jV,jW,jX,jY,jZ,nA,nB,nC,nD,nE,nF,nG,nH,nI,nJ,nK,nL,nM,nN,nO,nP,nQ,nR,nS,nT,nU,nV,nW,nX,nY,nZ,gA,gB,gC,gD,gE,gF,gG,gH,gI,gJ,gK,gL,gM,gN,gO,gP,gQ,gR,gS,gT,gU,gV,gW,gX,gY,gZ,fA,fB,fC,fD,fE,fF,fG,fH,fI,fJ,fK,fL,fM,fN,fO,fP,fQ,fR,fS,fT,fU,fV,fW,fX,fY,fZ,dA,dB,dC,dD,dE,dF,dG,dH,dI,dJ,dK,dL,dM,dN,dO,dP,dQ,dR,dS,dT,dU,dV,dW,dX,dY,dZ,cA,cB,cC,cD,cE,cF,cG,cH,cI,cJ,cK], defers := [] } ∧ Ext w w' ∧ w'.cell? ⟨B35, 0, none⟩ = some (.int .i64 0) ∧ w'.cell? ⟨B35, 1, none⟩ = some (.int .i64 0) ∧ w'.cell? ⟨B35, 2, none⟩ = some (.int .i64 0) ∧ w'.cell? ⟨B35, 3, none⟩ = some (.int .i64 0)) { tmps := #[yA,.slice (some ⟨gm, 0, none⟩) 4 4,yC,.pointer (some ⟨T, 0, none⟩),yE,yF,yG,yH,yI,yJ,yK,yL,yM,yN,yO,yP,yQ,yR,yS,yT,yU,yV,yW,yX,yY,yZ,zA,zB,zC,zD,zE,zF,zG,zH,zI,zJ,zK,zL,zM,zN,zO,zP,zQ,zR,zS,zT,zU,zV,zW,zX,zY,zZ,uA,uB,uC,uD,uE,uF,uG,uH,uI,uJ,uK,uL,uM,uN,uO,uP,uQ,uR,uS,uT,uU,uV,uW,uX,uY,uZ,iA,iB,iC,iD,iE,iF,iG,iH,iI,iJ,iK,iL,iM,iN,iO,iP,iQ,iR,iS,iT,iU,iV,iW,iX,iY,iZ,oA,oB,oC,oD,oE,oF,oG,oH,oI,oJ,oK,oL,oM,oN,oO,oP,oQ,oR,oS,oT,oU,oV,oW,oX,oY,oZ,qA,qB,qC,qD,qE,qF,qG,qH,qI,qJ,qK,qL,qM,qN,qO,qP,qQ,qR,qS,qT,qU,qV,qW,qX,qY,qZ,rA,rB,rC,rD,rE,rF,rG,rH,rI,rJ,rK,rL,rM,rN,rO,rP,rQ,rR,rS,rT,rU,rV,rW,rX,rY,rZ,jA,jB,jC,jD,jE,jF,jG,jH,jI,jJ,jK,jL,jM,jN,jO,jP,jQ,jR,jS,jT,jU,jV,jW,jX,jY,jZ,nA,nB,nC,nD,nE,nF,nG,nH,nI,nJ,nK,nL,nM,nN,nO,nP,nQ,nR,nS,nT,nU,nV,nW,nX,nY,nZ,gA,gB,gC,gD,gE,gF,gG,gH,gI,gJ,gK,gL,gM,gN,gO,gP,gQ,gR,gS,gT,gU,gV,gW,gX,gY,gZ,fA,fB,fC,fD,fE,fF,fG,fH,fI,fJ,fK,fL,fM,fN,fO,fP,fQ,fR,fS,fT,fU,fV,fW,fX,fY,fZ,dA,dB,dC,dD,dE,dF,dG,dH,dI,dJ,dK,dL,dM,dN,dO,dP,dQ,dR,dS,dT,dU,dV,dW,dX,dY,dZ,cA,cB,cC,cD,cE,cF,cG,cH,cI,cJ,cK], defers := [] } w := by
 conv => arg 2; whnf
 refine st_intro (fun Q2 hQ2 => ?_)
 replace hQ2 := hid hQ2
 replace hm := hid hm
 have lT := cell_lt t0
 dsimp only at lT
 go_wp2_with fail
 refine (cNev2 _ _ _ (hm.out.ext exE)).mono ?_; rintro e u ⟨rfl, hE⟩
 have x : Ext w u := exE
 clear hE
 go_wp2_with fail
 rw [hQ2.out]
 refine ⟨rfl, _, _, _, _, _, _, _, rfl, exE, by simp [go_sem], by simp [go_sem], by simp [go_sem], by simp [go_sem]⟩
set_option maxHeartbeats 40000000 in
theorem stW18 {yA yC yE yF yG yH yI yJ yK yL yM yN yO yP yQ yR yS yT yU yV yW yX yY yZ zA zB zC zD zE zF zG zH zI zJ zK zL zM zN zO zP zQ zR zS zT zU zV zW zX zY zZ uA uB uC uD uE uF uG uH uI uJ uK uL uM uN uO uP uQ uR uS uT uU uV uW uX uY uZ iA iB iC iD iE iF iG iH iI iJ iK iL iM iN iO iP iQ iR iS iT iU iV iW iX iY iZ oA oB oC oD oE oF oG oH oI oJ oK oL oM oN oO oP oQ oR oS oT oU oV oW oX oY oZ qA qB qC qD qE qF qG qH qI qJ qK qL qM qN qO qP qQ qR qS qT qU qV qW qX qY qZ rA rB rC rD rE rF rG rH rI rJ rK rL rM rN rO rP rQ rR rS rT rU rV rW rX rY rZ jA jB jC jD jE jF jG jH jI jJ jK jL jM jN jO jP jQ jR jS jT jU jV jW jX jY jZ nA nB nC nD nE nF nG nH nI nJ nK nL nM nN nO nP nQ nR nS nT nU nV nW nX nY nZ gA gB gC gD gE gF gG gH gI gJ gK gL gM gN gO gP gQ gR gS gT gU gV gW gX gY gZ fA fB fC fD fE fF fG fH fI fJ fK fL fM fN fO fP fQ fR fS fT fU fV fW fX fY fZ dA dB dC dD dE dF dG dH dI dJ dK dL dM dN dO dP dQ dR dS dT dU dV dW dX dY dZ cA cB cC cD cE cF cG cH cI cJ cK : Value} {gm T : Nat} {w : World} (hm : Mts w (some ⟨gm, 0, none⟩) mL) (t0 : w.cell? ⟨T, 0, none⟩ = some (.int .i64 100)) (t1 : w.cell? ⟨T, 1, none⟩ = some (.int .i64 10)) :
 Code.wp Try.prog (rgn Try.f18 18) (fun e a' w' => e = .normal ∧ ∃ (B37 : Nat) (B38 : Nat) (rF' rG' rH' rI' rJ' rK' rL' : Value), a' = { tmps := #[yA,.slice (some ⟨gm, 0, none⟩) 4 4,yC,.pointer (some ⟨T, 0, none⟩),yE,yF,yG,yH,yI,yJ,yK,yL,yM,yN,yO,yP,yQ,yR,yS,yT,yU,yV,yW,yX,yY,yZ,zA,zB,zC,zD,zE,zF,zG,zH,zI,zJ,zK,.pointer (some ⟨B37, 0, none⟩),.pointer (some ⟨B38, 0, none⟩),.int .i64 0,zO,zP,zQ,zR,zS,zT,zU,zV,zW,zX,zY,zZ,uA,uB,uC,uD,uE,uF,uG,uH,uI,uJ,uK,uL,uM,uN,uO,uP,uQ,uR,uS,uT,uU,uV,uW,uX,uY,uZ,iA,iB,iC,iD,iE,iF,iG,iH,iI,iJ,iK,iL,iM,iN,iO,iP,iQ,iR,iS,iT,iU,iV,iW,iX,iY,iZ,oA,oB,oC,oD,oE,oF,oG,oH,oI,oJ,oK,oL,oM,oN,oO,oP,oQ,oR,oS,oT,oU,oV,oW,oX,oY,oZ,qA,qB,qC,qD,qE,qF,qG,qH,qI,qJ,qK,qL,qM,qN,qO,qP,qQ,qR,qS,qT,qU,qV,qW,qX,qY,qZ,rA,rB,rC,rD,rE,rF',rG',rH',rI',rJ',rK',rL',rM,rN,rO,rP,rQ,rR,rS,rT,rU,rV,rW,rX,rY,rZ,jA,jB,jC,jD,jE,jF,jG,jH,jI,jJ,jK,jL,jM,jN,jO,jP,jQ,jR,jS,jT,jU,jV,jW,jX,jY,jZ,nA,nB,nC,nD,nE,nF,nG,nH,nI,nJ,nK,nL,nM,nN,nO,nP,nQ,nR,nS,nT,nU,nV,nW,nX,nY,nZ,gA,gB,gC,gD,gE,gF,gG,gH,gI,gJ,gK,gL,gM,gN,gO,gP,gQ,gR,gS,gT,gU,gV,gW,gX,gY,gZ,fA,fB,fC,fD,fE,fF,fG,fH,fI,fJ,fK,fL,fM,fN,fO,fP,fQ,fR,fS,fT,fU,fV,fW,fX,fY,fZ,dA,dB,dC,dD,dE,dF,dG,dH,dI,dJ,dK,dL,dM,dN,dO,dP,dQ,dR,dS,dT,dU,dV,dW,dX,dY,dZ,cA,cB,cC,cD,cE,cF,cG,cH,cI,cJ,cK], defers := [] } ∧ Ext w w' ∧ w'.cell? ⟨B37, 0, none⟩ = some (.int .i64 0) ∧ w'.cell? ⟨B37, 1, none⟩ = some (.int .i64 1) ∧ w'.cell? ⟨B38, 0, none⟩ = some (.int .i64 5) ∧ w'.cell? ⟨B38, 1, none⟩ = some (.int .i64 11)) { tmps := #[yA,.slice (some ⟨gm, 0, none⟩) 4 4,yC,.pointer (some ⟨T, 0, none⟩),yE,yF,yG,yH,yI,yJ,yK,yL,yM,yN,yO,yP,yQ,yR,yS,yT,yU,yV,yW,yX,yY,yZ,zA,zB,zC,zD,zE,zF,zG,zH,zI,zJ,zK,zL,zM,zN,zO,zP,zQ,zR,zS,zT,zU,zV,zW,zX,zY,zZ,uA,uB,uC,uD,uE,uF,uG,uH,uI,uJ,uK,uL,uM,uN,uO,uP,uQ,uR,uS,uT,uU,uV,uW,uX,uY,uZ,iA,iB,iC,iD,iE,iF,iG,iH,iI,iJ,iK,iL,iM,iN,iO,iP,iQ,iR,iS,iT,iU,iV,iW,iX,iY,iZ,oA,oB,oC,oD,oE,oF,oG,oH,oI,oJ,oK,oL,oM,oN,oO,oP,oQ,oR,oS,oT,oU,oV,oW,oX,oY,oZ,qA,qB,qC,qD,qE,qF,qG,qH,qI,qJ,qK,qL,qM,qN,qO,qP,qQ,qR,qS,qT,qU,qV,qW,qX,qY,qZ,rA,rB,rC,rD,rE,rF,rG,rH,rI,rJ,rK,rL,rM,rN,rO,rP,rQ,rR,rS,rT,rU,rV,rW,rX,rY,rZ,jA,jB,jC,jD,jE,jF,jG,jH,jI,jJ,jK,jL,jM,jN,jO,jP,jQ,jR,jS,jT,jU,jV,jW,jX,jY,jZ,nA,nB,nC,nD,nE,nF,nG,nH,nI,nJ,nK,nL,nM,nN,nO,nP,nQ,nR,nS,nT,nU,nV,nW,nX,nY,nZ,gA,gB,gC,gD,gE,gF,gG,gH,gI,gJ,gK,gL,gM,gN,gO,gP,gQ,gR,gS,gT,gU,gV,gW,gX,gY,gZ,fA,fB,fC,fD,fE,fF,fG,fH,fI,fJ,fK,fL,fM,fN,fO,fP,fQ,fR,fS,fT,fU,fV,fW,fX,fY,fZ,dA,dB,dC,dD,dE,dF,dG,dH,dI,dJ,dK,dL,dM,dN,dO,dP,dQ,dR,dS,dT,dU,dV,dW,dX,dY,dZ,cA,cB,cC,cD,cE,cF,cG,cH,cI,cJ,cK], defers := [] } w := by
 conv => arg 2; whnf
 refine st_intro (fun Q2 hQ2 => ?_)
 replace hQ2 := hid hQ2
 replace hm := hid hm
 have lT := cell_lt t0
 dsimp only at lT
 go_wp2_with fail
 refine (cSha1 _ _ _ (hm.out.ext exE)).mono ?_; rintro e u ⟨rfl, hE⟩
 have x : Ext w u := exE
 clear hE
 go_wp2_with fail
 rw [hQ2.out]
 refine ⟨rfl, _, _, _, _, _, _, _, _, _, rfl, exE, by simp [go_sem], by simp [go_sem], by simp [go_sem], by simp [go_sem]⟩
set_option maxHeartbeats 40000000 in
theorem stW19 {yA yC yE yF yG yH yI yJ yK yL yM yN yO yP yQ yR yS yT yU yV yW yX yY yZ zA zB zC zD zE zF zG zH zI zJ zK zL zM zN zO zP zQ zR zS zT zU zV zW zX zY zZ uA uB uC uD uE uF uG uH uI uJ uK uL uM uN uO uP uQ uR uS uT uU uV uW uX uY uZ iA iB iC iD iE iF iG iH iI iJ iK iL iM iN iO iP iQ iR iS iT iU iV iW iX iY iZ oA oB oC oD oE oF oG oH oI oJ oK oL oM oN oO oP oQ oR oS oT oU oV oW oX oY oZ qA qB qC qD qE qF qG qH qI qJ qK qL qM qN qO qP qQ qR qS qT qU qV qW qX qY qZ rA rB rC rD rE rF rG rH rI rJ rK rL rM rN rO rP rQ rR rS rT rU rV rW rX rY rZ jA jB jC jD jE jF jG jH jI jJ jK jL jM jN jO jP jQ jR jS jT jU jV jW jX jY jZ nA nB nC nD nE nF nG nH nI nJ nK nL nM nN nO nP nQ nR nS nT nU nV nW nX nY nZ gA gB gC gD gE gF gG gH gI gJ gK gL gM gN gO gP gQ gR gS gT gU gV gW gX gY gZ fA fB fC fD fE fF fG fH fI fJ fK fL fM fN fO fP fQ fR fS fT fU fV fW fX fY fZ dA dB dC dD dE dF dG dH dI dJ dK dL dM dN dO dP dQ dR dS dT dU dV dW dX dY dZ cA cB cC cD cE cF cG cH cI cJ cK : Value} {gm T : Nat} {w : World} (hm : Mts w (some ⟨gm, 0, none⟩) mL) (t0 : w.cell? ⟨T, 0, none⟩ = some (.int .i64 100)) (t1 : w.cell? ⟨T, 1, none⟩ = some (.int .i64 10)) :
 Code.wp Try.prog (rgn Try.f18 19) (fun e a' w' => e = .normal ∧ ∃ (B40 : Nat) (B41 : Nat) (rM' rN' rO' rP' rQ' rR' rS' : Value), a' = { tmps := #[yA,.slice (some ⟨gm, 0, none⟩) 4 4,yC,.pointer (some ⟨T, 0, none⟩),yE,yF,yG,yH,yI,yJ,yK,yL,yM,yN,yO,yP,yQ,yR,yS,yT,yU,yV,yW,yX,yY,yZ,zA,zB,zC,zD,zE,zF,zG,zH,zI,zJ,zK,zL,zM,zN,.pointer (some ⟨B40, 0, none⟩),.pointer (some ⟨B41, 0, none⟩),.int .i64 2,zR,zS,zT,zU,zV,zW,zX,zY,zZ,uA,uB,uC,uD,uE,uF,uG,uH,uI,uJ,uK,uL,uM,uN,uO,uP,uQ,uR,uS,uT,uU,uV,uW,uX,uY,uZ,iA,iB,iC,iD,iE,iF,iG,iH,iI,iJ,iK,iL,iM,iN,iO,iP,iQ,iR,iS,iT,iU,iV,iW,iX,iY,iZ,oA,oB,oC,oD,oE,oF,oG,oH,oI,oJ,oK,oL,oM,oN,oO,oP,oQ,oR,oS,oT,oU,oV,oW,oX,oY,oZ,qA,qB,qC,qD,qE,qF,qG,qH,qI,qJ,qK,qL,qM,qN,qO,qP,qQ,qR,qS,qT,qU,qV,qW,qX,qY,qZ,rA,rB,rC,rD,rE,rF,rG,rH,rI,rJ,rK,rL,rM',rN',rO',rP',rQ',rR',rS',rT,rU,rV,rW,rX,rY,rZ,jA,jB,jC,jD,jE,jF,jG,jH,jI,jJ,jK,jL,jM,jN,jO,jP,jQ,jR,jS,jT,jU,jV,jW,jX,jY,jZ,nA,nB,nC,nD,nE,nF,nG,nH,nI,nJ,nK,nL,nM,nN,nO,nP,nQ,nR,nS,nT,nU,nV,nW,nX,nY,nZ,gA,gB,gC,gD,gE,gF,gG,gH,gI,gJ,gK,gL,gM,gN,gO,gP,gQ,gR,gS,gT,gU,gV,gW,gX,gY,gZ,fA,fB,fC,fD,fE,fF,fG,fH,fI,fJ,fK,fL,fM,fN,fO,fP,fQ,fR,fS,fT,fU,fV,fW,fX,fY,fZ,dA,dB,dC,dD,dE,dF,dG,dH,dI,dJ,dK,dL,dM,dN,dO,dP,dQ,dR,dS,dT,dU,dV,dW,dX,dY,dZ,cA,cB,cC,cD,cE,cF,cG,cH,cI,cJ,cK], defers := [] } ∧ Ext w w' ∧ w'.cell? ⟨B40, 0, none⟩ = some (.int .i64 0) ∧ w'.cell? ⟨B40, 1, none⟩ = some (.int .i64 0) ∧ w'.cell? ⟨B41, 0, none⟩ = some (.int .i64 0) ∧ w'.cell? ⟨B41, 1, none⟩ = some (.int .i64 0)) { tmps := #[yA,.slice (some ⟨gm, 0, none⟩) 4 4,yC,.pointer (some ⟨T, 0, none⟩),yE,yF,yG,yH,yI,yJ,yK,yL,yM,yN,yO,yP,yQ,yR,yS,yT,yU,yV,yW,yX,yY,yZ,zA,zB,zC,zD,zE,zF,zG,zH,zI,zJ,zK,zL,zM,zN,zO,zP,zQ,zR,zS,zT,zU,zV,zW,zX,zY,zZ,uA,uB,uC,uD,uE,uF,uG,uH,uI,uJ,uK,uL,uM,uN,uO,uP,uQ,uR,uS,uT,uU,uV,uW,uX,uY,uZ,iA,iB,iC,iD,iE,iF,iG,iH,iI,iJ,iK,iL,iM,iN,iO,iP,iQ,iR,iS,iT,iU,iV,iW,iX,iY,iZ,oA,oB,oC,oD,oE,oF,oG,oH,oI,oJ,oK,oL,oM,oN,oO,oP,oQ,oR,oS,oT,oU,oV,oW,oX,oY,oZ,qA,qB,qC,qD,qE,qF,qG,qH,qI,qJ,qK,qL,qM,qN,qO,qP,qQ,qR,qS,qT,qU,qV,qW,qX,qY,qZ,rA,rB,rC,rD,rE,rF,rG,rH,rI,rJ,rK,rL,rM,rN,rO,rP,rQ,rR,rS,rT,rU,rV,rW,rX,rY,rZ,jA,jB,jC,jD,jE,jF,jG,jH,jI,jJ,jK,jL,jM,jN,jO,jP,jQ,jR,jS,jT,jU,jV,jW,jX,jY,jZ,nA,nB,nC,nD,nE,nF,nG,nH,nI,nJ,nK,nL,nM,nN,nO,nP,nQ,nR,nS,nT,nU,nV,nW,nX,nY,nZ,gA,gB,gC,gD,gE,gF,gG,gH,gI,gJ,gK,gL,gM,gN,gO,gP,gQ,gR,gS,gT,gU,gV,gW,gX,gY,gZ,fA,fB,fC,fD,fE,fF,fG,fH,fI,fJ,fK,fL,fM,fN,fO,fP,fQ,fR,fS,fT,fU,fV,fW,fX,fY,fZ,dA,dB,dC,dD,dE,dF,dG,dH,dI,dJ,dK,dL,dM,dN,dO,dP,dQ,dR,dS,dT,dU,dV,dW,dX,dY,dZ,cA,cB,cC,cD,cE,cF,cG,cH,cI,cJ,cK], defers := [] } w := by
 conv => arg 2; whnf
 refine st_intro (fun Q2 hQ2 => ?_)
 replace hQ2 := hid hQ2
 replace hm := hid hm
 have lT := cell_lt t0
 dsimp only at lT
 go_wp2_with fail
 refine (cSha2 _ _ _ (hm.out.ext exE)).mono ?_; rintro e u ⟨rfl, hE⟩
 have x : Ext w u := exE
 clear hE
 go_wp2_with fail
 rw [hQ2.out]
 refine ⟨rfl, _, _, _, _, _, _, _, _, _, rfl, exE, by simp [go_sem], by simp [go_sem], by simp [go_sem], by simp [go_sem]⟩
set_option maxHeartbeats 40000000 in
theorem stW22 {yA yC yE yF yG yH yI yJ yK yL yM yN yO yP yQ yR yS yT yU yV yW yX yY yZ zA zB zC zE zF zG zH zI zJ zK zL zM zN zO zP zQ zR zS zT zU zV zW zX zY zZ uA uB uC uD uE uF uG uH uI uJ uK uL uM uN uO uP uQ uR uS uT uU uV uW uX uY uZ iA iB iC iD iE iF iG iH iI iJ iK iL iM iN iO iP iQ iR iS iT iU iV iW iX iY iZ oA oB oC oD oE oF oG oH oI oJ oK oL oM oN oO oP oQ oR oS oT oU oV oW oX oY oZ qA qB qC qD qE qF qG qH qI qJ qK qL qM qN qO qP qQ qR qS qT qU qV qW qX qY qZ rA rB rC rD rE rF rG rH rI rJ rK rL rM rN rO rP rQ rR rS rT rU rV rW rX rY rZ jA jB jC jD jE jF jG jH jI jJ jK jL jM jN jO jP jQ jR jS jT jU jV jW jX jY jZ nA nB nC nD nE nF nG nH nI nJ nK nL nM nN nO nP nQ nR nS nT nU nV nW nX nY nZ gA gB gC gD gE gF gG gH gI gJ gK gL gM gN gO gP gQ gR gS gT gU gV gW gX gY gZ fA fB fC fD fE fF fG fH fI fJ fK fL fM fN fO fP fQ fR fS fT fU fV fW fX fY fZ dA dB dC dD dE dF dG dH dI dJ dK dL dM dN dO dP dQ dR dS dT dU dV dW dX dY dZ cA cB cC cD cE cF cG cH cI cJ cK : Value} {gm T B29 : Nat} {w : World} (hm : Mts w (some ⟨gm, 0, none⟩) mL) (t0 : w.cell? ⟨T, 0, none⟩ = some (.int .i64 100)) (t1 : w.cell? ⟨T, 1, none⟩ = some (.int .i64 10)) (q0 : w.cell? ⟨B29, 0, none⟩ = some (.int .i64 220000)) (q1 : w.cell? ⟨B29, 1, none⟩ = some (.int .i64 19800000)) (q2 : w.cell? ⟨B29, 2, none⟩ = some (.int .i64 40300)) (q3 : w.cell? ⟨B29, 3, none⟩ = some (.int .i64 6600)) :
 Code.wp Try.prog (rgn Try.f18 22) (fun e a' w' => e = .normal ∧ ∃ (B43 : Nat) (gX' gY' gZ' fA' fB' fC' fD' : Value), a' = { tmps := #[yA,.slice (some ⟨gm, 0, none⟩) 4 4,yC,.pointer (some ⟨T, 0, none⟩),yE,yF,yG,yH,yI,yJ,yK,yL,yM,yN,yO,yP,yQ,yR,yS,yT,yU,yV,yW,yX,yY,yZ,zA,zB,zC,.pointer (some ⟨B29, 0, none⟩),zE,zF,zG,zH,zI,zJ,zK,zL,zM,zN,zO,zP,zQ,.pointer (some ⟨B43, 0, none⟩),.int .i64 0,zT,zU,zV,zW,zX,zY,zZ,uA,uB,uC,uD,uE,uF,uG,uH,uI,uJ,uK,uL,uM,uN,uO,uP,uQ,uR,uS,uT,uU,uV,uW,uX,uY,uZ,iA,iB,iC,iD,iE,iF,iG,iH,iI,iJ,iK,iL,iM,iN,iO,iP,iQ,iR,iS,iT,iU,iV,iW,iX,iY,iZ,oA,oB,oC,oD,oE,oF,oG,oH,oI,oJ,oK,oL,oM,oN,oO,oP,oQ,oR,oS,oT,oU,oV,oW,oX,oY,oZ,qA,qB,qC,qD,qE,qF,qG,qH,qI,qJ,qK,qL,qM,qN,qO,qP,qQ,qR,qS,qT,qU,qV,qW,qX,qY,qZ,rA,rB,rC,rD,rE,rF,rG,rH,rI,rJ,rK,rL,rM,rN,rO,rP,rQ,rR,rS,rT,rU,rV,rW,rX,rY,rZ,jA,jB,jC,jD,jE,jF,jG,jH,jI,jJ,jK,jL,jM,jN,jO,jP,jQ,jR,jS,jT,jU,jV,jW,jX,jY,jZ,nA,nB,nC,nD,nE,nF,nG,nH,nI,nJ,nK,nL,nM,nN,nO,nP,nQ,nR,nS,nT,nU,nV,nW,nX,nY,nZ,gA,gB,gC,gD,gE,gF,gG,gH,gI,gJ,gK,gL,gM,gN,gO,gP,gQ,gR,gS,gT,gU,gV,gW,gX',gY',gZ',fA',fB',fC',fD',fE,fF,fG,fH,fI,fJ,fK,fL,fM,fN,fO,fP,fQ,fR,fS,fT,fU,fV,fW,fX,fY,fZ,dA,dB,dC,dD,dE,dF,dG,dH,dI,dJ,dK,dL,dM,dN,dO,dP,dQ,dR,dS,dT,dU,dV,dW,dX,dY,dZ,cA,cB,cC,cD,cE,cF,cG,cH,cI,cJ,cK], defers := [] } ∧ Ext w w' ∧ w'.cell? ⟨B43, 0, none⟩ = some (.int .i64 3959) ∧ w'.cell? ⟨B43, 1, none⟩ = some (.int .i64 55)) { tmps := #[yA,.slice (some ⟨gm, 0, none⟩) 4 4,yC,.pointer (some ⟨T, 0, none⟩),yE,yF,yG,yH,yI,yJ,yK,yL,yM,yN,yO,yP,yQ,yR,yS,yT,yU,yV,yW,yX,yY,yZ,zA,zB,zC,.pointer (some ⟨B29, 0, none⟩),zE,zF,zG,zH,zI,zJ,zK,zL,zM,zN,zO,zP,zQ,zR,zS,zT,zU,zV,zW,zX,zY,zZ,uA,uB,uC,uD,uE,uF,uG,uH,uI,uJ,uK,uL,uM,uN,uO,uP,uQ,uR,uS,uT,uU,uV,uW,uX,uY,uZ,iA,iB,iC,iD,iE,iF,iG,iH,iI,iJ,iK,iL,iM,iN,iO,iP,iQ,iR,iS,iT,iU,iV,iW,iX,iY,iZ,oA,oB,oC,oD,oE,oF,oG,oH,oI,oJ,oK,oL,oM,oN,oO,oP,oQ,oR,oS,oT,oU,oV,oW,oX,oY,oZ,qA,qB,qC,qD,qE,qF,qG,qH,qI,qJ,qK,qL,qM,qN,qO,qP,qQ,qR,qS,qT,qU,qV,qW,qX,qY,qZ,rA,rB,rC,rD,rE,rF,rG,rH,rI,rJ,rK,rL,rM,rN,rO,rP,rQ,rR,rS,rT,rU,rV,rW,rX,rY,rZ,jA,jB,jC,jD,jE,jF,jG,jH,jI,jJ,jK,jL,jM,jN,jO,jP,jQ,jR,jS,jT,jU,jV,jW,jX,jY,jZ,nA,nB,nC,nD,nE,nF,nG,nH,nI,nJ,nK,nL,nM,nN,nO,nP,nQ,nR,nS,nT,nU,nV,nW,nX,nY,nZ,gA,gB,gC,gD,gE,gF,gG,gH,gI,gJ,gK,gL,gM,gN,gO,gP,gQ,gR,gS,gT,gU,gV,gW,gX,gY,gZ,fA,fB,fC,fD,fE,fF,fG,fH,fI,fJ,fK,fL,fM,fN,fO,fP,fQ,fR,fS,fT,fU,fV,fW,fX,fY,fZ,dA,dB,dC,dD,dE,dF,dG,dH,dI,dJ,dK,dL,dM,dN,dO,dP,dQ,dR,dS,dT,dU,dV,dW,dX,dY,dZ,cA,cB,cC,cD,cE,cF,cG,cH,cI,cJ,cK], defers := [] } w := by
 conv => arg 2; whnf
 refine st_intro (fun Q2 hQ2 => ?_)
 replace hQ2 := hid hQ2
 replace hm := hid hm
 have lT := cell_lt t0
 dsimp only at lT
 have lq := cell_lt q0
 dsimp only at lq
 go_wp2_with fail
 refine (cRpf _ _ _ (hm.out.ext exE)).mono ?_; rintro e u ⟨rfl, hE⟩
 have x : Ext w u := exE
 clear hE
 go_wp2_with fail
 rw [hQ2.out]
 refine ⟨rfl, _, _, _, _, _, _, _, _, rfl, exE, by simp [go_sem], by simp [go_sem]⟩
set_option maxHeartbeats 40000000 in
theorem stW6 {A_ : Act} {yA yC yE yF yG yH yI yJ yK yL yM yN yO yP yQ yR yS yT yU yV yW yX yY yZ zA zB zC zD zE zF zG zH zI zJ zK zL zM zN zO zP zQ zR zS zT zU zV zW zX zY zZ uA uB uC uD uE uF uG uH uI uJ uK uL uM uN uO uP uQ uR uS uT uU uV uW uX uY uZ iA iB iC iD iE iF iG iH iI iJ iK iL iM iN iO iP iQ iR iS iT iU iV iW iX iY iZ oA oB oC oD oE oF oG oH oI oJ oK oL oM oN oO oP oQ oR oS oT oU oV oW oX oY oZ qA qB qC qD qE qF qG qH qI qJ qK qL qM qN qO qP qQ qR qS qT qU qV qW qX qY qZ rA rB rC rD rE rF rG rH rI rJ rK rL rM rN rO rP rQ rR rS rT rU rV rW rX rY rZ jA jB jC jD jE jF jG jH jI jJ jK jL jM jN jO jP jQ jR jS jT jU jV jW jX jY jZ nA nB nC nD nE nF nG nH nI nJ nK nL nM nN nO nP nQ nR nS nT nU nV nW nX nY nZ gA gB gC gD gE gF gG gH gI gJ gK gL gM gN gO gP gQ gR gS gT gU gV gW gX gY gZ fA fB fC fD fE fF fG fH fI fJ fK fL fM fN fO fP fQ fR fS fT fU fV fW fX fY fZ dA dB dC dD dE dF dG dH dI dJ dK dL dM dN dO dP dQ dR dS dT dU dV dW dX dY dZ cA cB cC cD cE cF cG cH cI cJ cK : Value} {gm T : Nat} {w : World} (hA0_ : A_ = { tmps := #[yA, .slice (some ⟨gm, 0, none⟩) 4 4, yC, .pointer (some ⟨T, 0, none⟩), yE, yF, yG, yH, yI, yJ, yK, yL, yM, yN, yO, yP, yQ, yR, yS, yT, yU, yV, yW, yX, yY, yZ, zA, zB, zC, zD, zE, zF, zG, zH, zI, zJ, zK, zL, zM, zN, zO, zP, zQ, zR, zS, zT, zU, zV, zW, zX, zY, zZ, uA, uB, uC, uD, uE, uF, uG, uH, uI, uJ, uK, uL, uM, uN, uO, uP, uQ, uR, uS, uT, uU, uV, uW, uX, uY, uZ, iA, iB, iC, iD, iE, iF, iG, iH, iI, iJ, iK, iL, iM, iN, iO, iP, iQ, iR, iS, iT, iU, iV, iW, iX, iY, iZ, oA, oB, oC, oD, oE, oF, oG, oH, oI, oJ, oK, oL, oM, oN, oO, oP, oQ, oR, oS, oT, oU, oV, oW, oX, oY, oZ, qA, qB, qC, qD, qE, qF, qG, qH, qI, qJ, qK, qL, qM, qN, qO, qP, qQ, qR, qS, qT, qU, qV, qW, qX, qY, qZ, rA, rB, rC, rD, rE, rF, rG, rH, rI, rJ, rK, rL, rM, rN, rO, rP, rQ, rR, rS, rT, rU, rV, rW, rX, rY, rZ, jA, jB, jC, jD, jE, jF, jG, jH, jI, jJ, jK, jL, jM, jN, jO, jP, jQ, jR, jS, jT, jU, jV, jW, jX, jY, jZ, nA, nB, nC, nD, nE, nF, nG, nH, nI, nJ, nK, nL, nM, nN, nO, nP, nQ, nR, nS, nT, nU, nV, nW, nX, nY, nZ, gA, gB, gC, gD, gE, gF, gG, gH, gI, gJ, gK, gL, gM, gN, gO, gP, gQ, gR, gS, gT, gU, gV, gW, gX, gY, gZ, fA, fB, fC, fD, fE, fF, fG, fH, fI, fJ, fK, fL, fM, fN, fO, fP, fQ, fR, fS, fT, fU, fV, fW, fX, fY, fZ, dA, dB, dC, dD, dE, dF, dG, dH, dI, dJ, dK, dL, dM, dN, dO, dP, dQ, dR, dS, dT, dU, dV, dW, dX, dY, dZ, cA, cB, cC, cD, cE, cF, cG, cH, cI, cJ, cK], defers := [] }) (hm : Mts w (some ⟨gm, 0, none⟩) mL) (t0 : w.cell? ⟨T, 0, none⟩ = some (.int .i64 100)) (t1 : w.cell? ⟨T, 1, none⟩ = some (.int .i64 10)) :
 Code.wp Try.prog (rgn Try.f18 6) (fun e a' w' => e = .normal ∧ ∃ (k2 : Nat) (k7 : Nat), a' = ({ tmps := #[yA,.slice (some ⟨gm, 0, none⟩) 4 4,yC,.pointer (some ⟨T, 0, none⟩),yE,yF,yG,yH,yI,yJ,yK,yL,yM,.int .i64 0,.int .i64 17,yP,yQ,yR,yS,yT,yU,yV,yW,yX,yY,yZ,zA,zB,zC,zD,zE,zF,zG,zH,zI,zJ,zK,zL,zM,zN,zO,zP,zQ,zR,zS,zT,zU,zV,zW,zX,zY,zZ,uA,uB,uC,uD,uE,uF,uG,uH,uI,uJ,uK,uL,uM,uN,uO,uP,uQ,uR,uS,uT,uU,uV,uW,uX,uY,.slice (some ⟨gm, 0, none⟩) 4 4,.agg #[.int .i64 100, .int .i64 10],.slice (some ⟨k2, 0, none⟩) 4 4,.slice (some ⟨k2, 0, none⟩) 4 4,.int .i64 0,.slice (some ⟨gm, 0, none⟩) 4 4,.agg #[.int .i64 100, .int .i64 10],.slice (some ⟨k7, 0, none⟩) 4 4,.slice (some ⟨k7, 0, none⟩) 4 4,.int .i64 17,iJ,iK,iL,iM,iN,iO,iP,iQ,iR,iS,iT,iU,iV,iW,iX,iY,iZ,oA,oB,oC,oD,oE,oF,oG,oH,oI,oJ,oK,oL,oM,oN,oO,oP,oQ,oR,oS,oT,oU,oV,oW,oX,oY,oZ,qA,qB,qC,qD,qE,qF,qG,qH,qI,qJ,qK,qL,qM,qN,qO,qP,qQ,qR,qS,qT,qU,qV,qW,qX,qY,qZ,rA,rB,rC,rD,rE,rF,rG,rH,rI,rJ,rK,rL,rM,rN,rO,rP,rQ,rR,rS,rT,rU,rV,rW,rX,rY,rZ,jA,jB,jC,jD,jE,jF,jG,jH,jI,jJ,jK,jL,jM,jN,jO,jP,jQ,jR,jS,jT,jU,jV,jW,jX,jY,jZ,nA,nB,nC,nD,nE,nF,nG,nH,nI,nJ,nK,nL,nM,nN,nO,nP,nQ,nR,nS,nT,nU,nV,nW,nX,nY,nZ,gA,gB,gC,gD,gE,gF,gG,gH,gI,gJ,gK,gL,gM,gN,gO,gP,gQ,gR,gS,gT,gU,gV,gW,gX,gY,gZ,fA,fB,fC,fD,fE,fF,fG,fH,fI,fJ,fK,fL,fM,fN,fO,fP,fQ,fR,fS,fT,fU,fV,fW,fX,fY,fZ,dA,dB,dC,dD,dE,dF,dG,dH,dI,dJ,dK,dL,dM,dN,dO,dP,dQ,dR,dS,dT,dU,dV,dW,dX,dY,dZ,cA,cB,cC,cD,cE,cF,cG,cH,cI,cJ,cK], defers := [] } : Act) ∧ Ext w w') A_ w := by
 conv => arg 2; whnf
 refine st_intro (fun Q2 hQ2 => ?_)
 have hA_ := hid hA0_
 clear hA0_
 have hpan : ∀ c a a' w w', Q2 (.panic c) a w → Q2 (.panic c) a' w' := by rw [hQ2]; rintro c a a' w w' ⟨h, _⟩; cases h
 replace hQ2 := hid hQ2
 replace hm := hid hm
 have hRD_ := hid (fun w' (x_ : Ext w w') => And.intro (Ext.cell x_ t0) (Ext.cell x_ t1))
 refine wp_region_held_drew (S := fun w' => Ext w w') (by kernel_rfl) exE fun hHeld => ?_
 try simp only [List.append_eq, List.cons_append, List.nil_append]
 refine name_any (fun W0 hW => ?_)
 have s0 : Ext w W0 := by rw [hW]; exact hHeld
 clear hW hHeld
 refine wpF_intro 12 (by kernel_rfl) (fun F hF => ?_)
 replace hF := hid hF
 have N1_0 : ∀ (k2 : Nat) (k7 : Nat) (f_ : Nat) (l_ : Array Bool) (W0 : World) (a_ : Act), f_ = 3 → l_ = #[true, true, true, true, true, true, true, true, true, false, false, false] → a_ = ({ tmps := #[yA,.slice (some ⟨gm, 0, none⟩) 4 4,yC,.pointer (some ⟨T, 0, none⟩),yE,yF,yG,yH,yI,yJ,yK,yL,yM,yN,yO,yP,yQ,yR,yS,yT,yU,yV,yW,yX,yY,yZ,zA,zB,zC,zD,zE,zF,zG,zH,zI,zJ,zK,zL,zM,zN,zO,zP,zQ,zR,zS,zT,zU,zV,zW,zX,zY,zZ,uA,uB,uC,uD,uE,uF,uG,uH,uI,uJ,uK,uL,uM,uN,uO,uP,uQ,uR,uS,uT,uU,uV,uW,uX,uY,.slice (some ⟨gm, 0, none⟩) 4 4,.agg #[.int .i64 100, .int .i64 10],.slice (some ⟨k2, 0, none⟩) 4 4,.slice (some ⟨k2, 0, none⟩) 4 4,.int .i64 0,.slice (some ⟨gm, 0, none⟩) 4 4,.agg #[.int .i64 100, .int .i64 10],.slice (some ⟨k7, 0, none⟩) 4 4,.slice (some ⟨k7, 0, none⟩) 4 4,iI,iJ,iK,iL,iM,iN,iO,iP,iQ,iR,iS,iT,iU,iV,iW,iX,iY,iZ,oA,oB,oC,oD,oE,oF,oG,oH,oI,oJ,oK,oL,oM,oN,oO,oP,oQ,oR,oS,oT,oU,oV,oW,oX,oY,oZ,qA,qB,qC,qD,qE,qF,qG,qH,qI,qJ,qK,qL,qM,qN,qO,qP,qQ,qR,qS,qT,qU,qV,qW,qX,qY,qZ,rA,rB,rC,rD,rE,rF,rG,rH,rI,rJ,rK,rL,rM,rN,rO,rP,rQ,rR,rS,rT,rU,rV,rW,rX,rY,rZ,jA,jB,jC,jD,jE,jF,jG,jH,jI,jJ,jK,jL,jM,jN,jO,jP,jQ,jR,jS,jT,jU,jV,jW,jX,jY,jZ,nA,nB,nC,nD,nE,nF,nG,nH,nI,nJ,nK,nL,nM,nN,nO,nP,nQ,nR,nS,nT,nU,nV,nW,nX,nY,nZ,gA,gB,gC,gD,gE,gF,gG,gH,gI,gJ,gK,gL,gM,gN,gO,gP,gQ,gR,gS,gT,gU,gV,gW,gX,gY,gZ,fA,fB,fC,fD,fE,fF,fG,fH,fI,fJ,fK,fL,fM,fN,fO,fP,fQ,fR,fS,fT,fU,fV,fW,fX,fY,fZ,dA,dB,dC,dD,dE,dF,dG,dH,dI,dJ,dK,dL,dM,dN,dO,dP,dQ,dR,dS,dT,dU,dV,dW,dX,dY,dZ,cA,cB,cC,cD,cE,cF,cG,cH,cI,cJ,cK], defers := [] } : Act) → Ext w W0 → Hid (Ints W0 (some ⟨k7, 0, none⟩) [4, 0, 0, 5]) → F f_ l_ a_ W0 := by
  intro k2 k7 f_ l_ W0 a_ hf_ hl_ ha_ s0 i7
  subst hf_ hl_ ha_
  refine (hF.out _ _ _ _).2 ?_
  refine wpAnyH_ready (rs := [9]) (by kernel_rfl) (by simp) ?_
  refine AllReadyH.cons (o := _) rfl (fun K hK => ?_) AllReadyH.nil
  refine tk_call (by kernel_rfl) (cDes2 _ 4 _ 4 _ (hm.out.ext s0) i7.out) (by kernel_rfl) ?_; rintro e W1 ⟨rfl, e1⟩; refine ⟨_, rfl, ?_⟩
  have s1 := s0.trans e1
  refine hK.out _ _ s1 (fun _ => ?_)
  clear hK K
  try simp only [sxA, sxB, sxC, Act.put, sxD, sxE, sxF]
  refine tkB (i := 10) (v := ?_) rfl hpan ?yl ?_
  case yl => (intro w hSw; have k_ := hRD_.out w hSw; go_simp); with_reducible rfl
  try simp only [sxA, sxB, sxC, Act.put, sxD, sxE, sxF]
  refine tkB (i := 11) (v := ?_) rfl hpan ?yl ?_
  case yl => (intro w hSw; have k_ := hRD_.out w hSw; go_simp); with_reducible rfl
  try simp only [sxA, sxB, sxC, Act.put, sxD, sxE, sxF]
  refine wpAnyH_done (by kernel_rfl) ?_ _
  try simp only [sxA, sxB, sxC, Act.put, sxD, sxE, sxF]
  rw [hQ2.out]
  refine ⟨rfl, k2, k7, ?eq1_1, s1⟩
  case eq1_1 => (first | with_reducible rfl | rfl)
 have N1_1 : ∀ (k2 : Nat) (k7 : Nat) (f_ : Nat) (l_ : Array Bool) (W0 : World) (a_ : Act), f_ = 4 → l_ = #[true, true, true, true, true, true, true, true, false, false, false, false] → a_ = ({ tmps := #[yA,.slice (some ⟨gm, 0, none⟩) 4 4,yC,.pointer (some ⟨T, 0, none⟩),yE,yF,yG,yH,yI,yJ,yK,yL,yM,yN,yO,yP,yQ,yR,yS,yT,yU,yV,yW,yX,yY,yZ,zA,zB,zC,zD,zE,zF,zG,zH,zI,zJ,zK,zL,zM,zN,zO,zP,zQ,zR,zS,zT,zU,zV,zW,zX,zY,zZ,uA,uB,uC,uD,uE,uF,uG,uH,uI,uJ,uK,uL,uM,uN,uO,uP,uQ,uR,uS,uT,uU,uV,uW,uX,uY,.slice (some ⟨gm, 0, none⟩) 4 4,.agg #[.int .i64 100, .int .i64 10],.slice (some ⟨k2, 0, none⟩) 4 4,.slice (some ⟨k2, 0, none⟩) 4 4,.int .i64 0,.slice (some ⟨gm, 0, none⟩) 4 4,.agg #[.int .i64 100, .int .i64 10],.slice (some ⟨k7, 0, none⟩) 4 4,iH,iI,iJ,iK,iL,iM,iN,iO,iP,iQ,iR,iS,iT,iU,iV,iW,iX,iY,iZ,oA,oB,oC,oD,oE,oF,oG,oH,oI,oJ,oK,oL,oM,oN,oO,oP,oQ,oR,oS,oT,oU,oV,oW,oX,oY,oZ,qA,qB,qC,qD,qE,qF,qG,qH,qI,qJ,qK,qL,qM,qN,qO,qP,qQ,qR,qS,qT,qU,qV,qW,qX,qY,qZ,rA,rB,rC,rD,rE,rF,rG,rH,rI,rJ,rK,rL,rM,rN,rO,rP,rQ,rR,rS,rT,rU,rV,rW,rX,rY,rZ,jA,jB,jC,jD,jE,jF,jG,jH,jI,jJ,jK,jL,jM,jN,jO,jP,jQ,jR,jS,jT,jU,jV,jW,jX,jY,jZ,nA,nB,nC,nD,nE,nF,nG,nH,nI,nJ,nK,nL,nM,nN,nO,nP,nQ,nR,nS,nT,nU,nV,nW,nX,nY,nZ,gA,gB,gC,gD,gE,gF,gG,gH,gI,gJ,gK,gL,gM,gN,gO,gP,gQ,gR,gS,gT,gU,gV,gW,gX,gY,gZ,fA,fB,fC,fD,fE,fF,fG,fH,fI,fJ,fK,fL,fM,fN,fO,fP,fQ,fR,fS,fT,fU,fV,fW,fX,fY,fZ,dA,dB,dC,dD,dE,dF,dG,dH,dI,dJ,dK,dL,dM,dN,dO,dP,dQ,dR,dS,dT,dU,dV,dW,dX,dY,dZ,cA,cB,cC,cD,cE,cF,cG,cH,cI,cJ,cK], defers := [] } : Act) → Ext w W0 → Hid (Ints W0 (some ⟨k7, 0, none⟩) [4, 0, 0, 5]) → F f_ l_ a_ W0 := by
  intro k2 k7 f_ l_ W0 a_ hf_ hl_ ha_ s0 i7
  subst hf_ hl_ ha_
  refine (hF.out _ _ _ _).2 ?_
  refine wpAnyH_ready (rs := [8]) (by kernel_rfl) (by simp) ?_
  refine AllReadyH.cons (o := _) rfl (fun K hK => ?_) AllReadyH.nil
  refine tk_call (by kernel_rfl) (longs_any (.slice (some ⟨k7, 0, none⟩) 4 4) _) (by kernel_rfl) ?_; rintro e W1 ⟨rfl, rfl⟩; refine ⟨_, rfl, ?_⟩
  refine hK.out _ _ s0 (fun _ => ?_)
  clear hK K
  try simp only [sxA, sxB, sxC, Act.put, sxD, sxE, sxF]
  refine (hF.out _ _ _ _).1 ?_
  exact N1_0 k2 k7 _ _ W0 _ (by first | rfl | kernel_rfl) (by first | rfl | kernel_rfl) (by (try simp only [sxA, sxB, sxC, Act.put, sxD, sxE, sxF]); first | done | with_reducible rfl | rfl) s0 i7
 have N1_2 : ∀ (k2 : Nat) (f_ : Nat) (l_ : Array Bool) (W0 : World) (a_ : Act), f_ = 5 → l_ = #[true, true, true, true, true, true, true, false, false, false, false, false] → a_ = ({ tmps := #[yA,.slice (some ⟨gm, 0, none⟩) 4 4,yC,.pointer (some ⟨T, 0, none⟩),yE,yF,yG,yH,yI,yJ,yK,yL,yM,yN,yO,yP,yQ,yR,yS,yT,yU,yV,yW,yX,yY,yZ,zA,zB,zC,zD,zE,zF,zG,zH,zI,zJ,zK,zL,zM,zN,zO,zP,zQ,zR,zS,zT,zU,zV,zW,zX,zY,zZ,uA,uB,uC,uD,uE,uF,uG,uH,uI,uJ,uK,uL,uM,uN,uO,uP,uQ,uR,uS,uT,uU,uV,uW,uX,uY,.slice (some ⟨gm, 0, none⟩) 4 4,.agg #[.int .i64 100, .int .i64 10],.slice (some ⟨k2, 0, none⟩) 4 4,.slice (some ⟨k2, 0, none⟩) 4 4,.int .i64 0,.slice (some ⟨gm, 0, none⟩) 4 4,.agg #[.int .i64 100, .int .i64 10],iG,iH,iI,iJ,iK,iL,iM,iN,iO,iP,iQ,iR,iS,iT,iU,iV,iW,iX,iY,iZ,oA,oB,oC,oD,oE,oF,oG,oH,oI,oJ,oK,oL,oM,oN,oO,oP,oQ,oR,oS,oT,oU,oV,oW,oX,oY,oZ,qA,qB,qC,qD,qE,qF,qG,qH,qI,qJ,qK,qL,qM,qN,qO,qP,qQ,qR,qS,qT,qU,qV,qW,qX,qY,qZ,rA,rB,rC,rD,rE,rF,rG,rH,rI,rJ,rK,rL,rM,rN,rO,rP,rQ,rR,rS,rT,rU,rV,rW,rX,rY,rZ,jA,jB,jC,jD,jE,jF,jG,jH,jI,jJ,jK,jL,jM,jN,jO,jP,jQ,jR,jS,jT,jU,jV,jW,jX,jY,jZ,nA,nB,nC,nD,nE,nF,nG,nH,nI,nJ,nK,nL,nM,nN,nO,nP,nQ,nR,nS,nT,nU,nV,nW,nX,nY,nZ,gA,gB,gC,gD,gE,gF,gG,gH,gI,gJ,gK,gL,gM,gN,gO,gP,gQ,gR,gS,gT,gU,gV,gW,gX,gY,gZ,fA,fB,fC,fD,fE,fF,fG,fH,fI,fJ,fK,fL,fM,fN,fO,fP,fQ,fR,fS,fT,fU,fV,fW,fX,fY,fZ,dA,dB,dC,dD,dE,dF,dG,dH,dI,dJ,dK,dL,dM,dN,dO,dP,dQ,dR,dS,dT,dU,dV,dW,dX,dY,dZ,cA,cB,cC,cD,cE,cF,cG,cH,cI,cJ,cK], defers := [] } : Act) → Ext w W0 → F f_ l_ a_ W0 := by
  intro k2 f_ l_ W0 a_ hf_ hl_ ha_ s0
  subst hf_ hl_ ha_
  refine (hF.out _ _ _ _).2 ?_
  clear N1_0
  refine wpAnyH_ready (rs := [7]) (by kernel_rfl) (by simp) ?_
  refine AllReadyH.cons (o := _) rfl (fun K hK => ?_) AllReadyH.nil
  go_simp
  refine hK.out _ _ (Ext.alloc s0 _) (fun _ => ?_)
  clear hK K
  try simp only [sxA, sxB, sxC, Act.put, sxD, sxE, sxF]
  refine name_any (fun W1 hW => ?_)
  have e1 : Ext W0 W1 := by rw [hW]; exact Ext.alloc (Ext.refl _) _
  have s1 := s0.trans e1
  have ni := hid (show Ints W1 (some ⟨W0.heap.size, 0, none⟩) [4, 0, 0, 5] by rw [hW]; exact litM (w := W0) [4, 0, 0, 5] (t := 2) rfl)
  clear hW
  refine (hF.out _ _ _ _).1 ?_
  exact N1_1 k2 W0.heap.size _ _ W1 _ (by first | rfl | kernel_rfl) (by first | rfl | kernel_rfl) (by (try simp only [sxA, sxB, sxC, Act.put, sxD, sxE, sxF]); first | done | with_reducible rfl | rfl) s1 ni
 have N1_3 : ∀ (k2 : Nat) (k7 : Nat) (f_ : Nat) (l_ : Array Bool) (W0 : World) (a_ : Act), f_ = 5 → l_ = #[true, true, true, true, false, true, true, true, false, false, false, false] → a_ = ({ tmps := #[yA,.slice (some ⟨gm, 0, none⟩) 4 4,yC,.pointer (some ⟨T, 0, none⟩),yE,yF,yG,yH,yI,yJ,yK,yL,yM,yN,yO,yP,yQ,yR,yS,yT,yU,yV,yW,yX,yY,yZ,zA,zB,zC,zD,zE,zF,zG,zH,zI,zJ,zK,zL,zM,zN,zO,zP,zQ,zR,zS,zT,zU,zV,zW,zX,zY,zZ,uA,uB,uC,uD,uE,uF,uG,uH,uI,uJ,uK,uL,uM,uN,uO,uP,uQ,uR,uS,uT,uU,uV,uW,uX,uY,.slice (some ⟨gm, 0, none⟩) 4 4,.agg #[.int .i64 100, .int .i64 10],.slice (some ⟨k2, 0, none⟩) 4 4,.slice (some ⟨k2, 0, none⟩) 4 4,iD,.slice (some ⟨gm, 0, none⟩) 4 4,.agg #[.int .i64 100, .int .i64 10],.slice (some ⟨k7, 0, none⟩) 4 4,iH,iI,iJ,iK,iL,iM,iN,iO,iP,iQ,iR,iS,iT,iU,iV,iW,iX,iY,iZ,oA,oB,oC,oD,oE,oF,oG,oH,oI,oJ,oK,oL,oM,oN,oO,oP,oQ,oR,oS,oT,oU,oV,oW,oX,oY,oZ,qA,qB,qC,qD,qE,qF,qG,qH,qI,qJ,qK,qL,qM,qN,qO,qP,qQ,qR,qS,qT,qU,qV,qW,qX,qY,qZ,rA,rB,rC,rD,rE,rF,rG,rH,rI,rJ,rK,rL,rM,rN,rO,rP,rQ,rR,rS,rT,rU,rV,rW,rX,rY,rZ,jA,jB,jC,jD,jE,jF,jG,jH,jI,jJ,jK,jL,jM,jN,jO,jP,jQ,jR,jS,jT,jU,jV,jW,jX,jY,jZ,nA,nB,nC,nD,nE,nF,nG,nH,nI,nJ,nK,nL,nM,nN,nO,nP,nQ,nR,nS,nT,nU,nV,nW,nX,nY,nZ,gA,gB,gC,gD,gE,gF,gG,gH,gI,gJ,gK,gL,gM,gN,gO,gP,gQ,gR,gS,gT,gU,gV,gW,gX,gY,gZ,fA,fB,fC,fD,fE,fF,fG,fH,fI,fJ,fK,fL,fM,fN,fO,fP,fQ,fR,fS,fT,fU,fV,fW,fX,fY,fZ,dA,dB,dC,dD,dE,dF,dG,dH,dI,dJ,dK,dL,dM,dN,dO,dP,dQ,dR,dS,dT,dU,dV,dW,dX,dY,dZ,cA,cB,cC,cD,cE,cF,cG,cH,cI,cJ,cK], defers := [] } : Act) → Ext w W0 → Hid (Ints W0 (some ⟨k2, 0, none⟩) [297, 0, 3, 250]) → Hid (Ints W0 (some ⟨k7, 0, none⟩) [4, 0, 0, 5]) → F f_ l_ a_ W0 := by
  intro k2 k7 f_ l_ W0 a_ hf_ hl_ ha_ s0 i2 i7
  subst hf_ hl_ ha_
  refine (hF.out _ _ _ _).2 ?_
  clear N1_0 N1_2
  refine wpAnyH_ready (rs := [4]) (by kernel_rfl) (by simp) ?_
  refine AllReadyH.cons (o := _) rfl (fun K hK => ?_) AllReadyH.nil
  refine tk_call (by kernel_rfl) (cDes1 _ 4 _ 4 _ (hm.out.ext s0) i2.out) (by kernel_rfl) ?_; rintro e W1 ⟨rfl, e1⟩; refine ⟨_, rfl, ?_⟩
  have s1 := s0.trans e1
  refine hK.out _ _ s1 (fun _ => ?_)
  clear hK K
  try simp only [sxA, sxB, sxC, Act.put, sxD, sxE, sxF]
  refine (hF.out _ _ _ _).1 ?_
  exact N1_1 k2 k7 _ _ W1 _ (by first | rfl | kernel_rfl) (by first | rfl | kernel_rfl) (by (try simp only [sxA, sxB, sxC, Act.put, sxD, sxE, sxF]); first | done | with_reducible rfl | rfl) s1 (hid (i7.out.ext e1))
 have N1_4 : ∀ (k2 : Nat) (f_ : Nat) (l_ : Array Bool) (W0 : World) (a_ : Act), f_ = 6 → l_ = #[true, true, true, true, false, true, true, false, false, false, false, false] → a_ = ({ tmps := #[yA,.slice (some ⟨gm, 0, none⟩) 4 4,yC,.pointer (some ⟨T, 0, none⟩),yE,yF,yG,yH,yI,yJ,yK,yL,yM,yN,yO,yP,yQ,yR,yS,yT,yU,yV,yW,yX,yY,yZ,zA,zB,zC,zD,zE,zF,zG,zH,zI,zJ,zK,zL,zM,zN,zO,zP,zQ,zR,zS,zT,zU,zV,zW,zX,zY,zZ,uA,uB,uC,uD,uE,uF,uG,uH,uI,uJ,uK,uL,uM,uN,uO,uP,uQ,uR,uS,uT,uU,uV,uW,uX,uY,.slice (some ⟨gm, 0, none⟩) 4 4,.agg #[.int .i64 100, .int .i64 10],.slice (some ⟨k2, 0, none⟩) 4 4,.slice (some ⟨k2, 0, none⟩) 4 4,iD,.slice (some ⟨gm, 0, none⟩) 4 4,.agg #[.int .i64 100, .int .i64 10],iG,iH,iI,iJ,iK,iL,iM,iN,iO,iP,iQ,iR,iS,iT,iU,iV,iW,iX,iY,iZ,oA,oB,oC,oD,oE,oF,oG,oH,oI,oJ,oK,oL,oM,oN,oO,oP,oQ,oR,oS,oT,oU,oV,oW,oX,oY,oZ,qA,qB,qC,qD,qE,qF,qG,qH,qI,qJ,qK,qL,qM,qN,qO,qP,qQ,qR,qS,qT,qU,qV,qW,qX,qY,qZ,rA,rB,rC,rD,rE,rF,rG,rH,rI,rJ,rK,rL,rM,rN,rO,rP,rQ,rR,rS,rT,rU,rV,rW,rX,rY,rZ,jA,jB,jC,jD,jE,jF,jG,jH,jI,jJ,jK,jL,jM,jN,jO,jP,jQ,jR,jS,jT,jU,jV,jW,jX,jY,jZ,nA,nB,nC,nD,nE,nF,nG,nH,nI,nJ,nK,nL,nM,nN,nO,nP,nQ,nR,nS,nT,nU,nV,nW,nX,nY,nZ,gA,gB,gC,gD,gE,gF,gG,gH,gI,gJ,gK,gL,gM,gN,gO,gP,gQ,gR,gS,gT,gU,gV,gW,gX,gY,gZ,fA,fB,fC,fD,fE,fF,fG,fH,fI,fJ,fK,fL,fM,fN,fO,fP,fQ,fR,fS,fT,fU,fV,fW,fX,fY,fZ,dA,dB,dC,dD,dE,dF,dG,dH,dI,dJ,dK,dL,dM,dN,dO,dP,dQ,dR,dS,dT,dU,dV,dW,dX,dY,dZ,cA,cB,cC,cD,cE,cF,cG,cH,cI,cJ,cK], defers := [] } : Act) → Ext w W0 → Hid (Ints W0 (some ⟨k2, 0, none⟩) [297, 0, 3, 250]) → F f_ l_ a_ W0 := by
  intro k2 f_ l_ W0 a_ hf_ hl_ ha_ s0 i2
  subst hf_ hl_ ha_
  refine (hF.out _ _ _ _).2 ?_
  clear N1_0 N1_1
  refine wpAnyH_ready (rs := [4, 7]) (by kernel_rfl) (by simp) ?_
  refine AllReadyH.cons (o := _) rfl (fun K hK => ?_) ?_
  ·skip
   refine tk_call (by kernel_rfl) (cDes1 _ 4 _ 4 _ (hm.out.ext s0) i2.out) (by kernel_rfl) ?_; rintro e W1 ⟨rfl, e1⟩; refine ⟨_, rfl, ?_⟩
   have s1 := s0.trans e1
   refine hK.out _ _ s1 (fun _ => ?_)
   clear hK K
   try simp only [sxA, sxB, sxC, Act.put, sxD, sxE, sxF]
   refine (hF.out _ _ _ _).1 ?_
   exact N1_2 k2 _ _ W1 _ (by first | rfl | kernel_rfl) (by first | rfl | kernel_rfl) (by (try simp only [sxA, sxB, sxC, Act.put, sxD, sxE, sxF]); first | done | with_reducible rfl | rfl) s1
  refine AllReadyH.cons (o := _) rfl (fun K hK => ?_) ?_
  ·skip
   go_simp
   refine hK.out _ _ (Ext.alloc s0 _) (fun _ => ?_)
   clear hK K
   try simp only [sxA, sxB, sxC, Act.put, sxD, sxE, sxF]
   refine name_any (fun W1 hW => ?_)
   have e1 : Ext W0 W1 := by rw [hW]; exact Ext.alloc (Ext.refl _) _
   have s1 := s0.trans e1
   have ni := hid (show Ints W1 (some ⟨W0.heap.size, 0, none⟩) [4, 0, 0, 5] by rw [hW]; exact litM (w := W0) [4, 0, 0, 5] (t := 2) rfl)
   clear hW
   refine (hF.out _ _ _ _).1 ?_
   exact N1_3 k2 W0.heap.size _ _ W1 _ (by first | rfl | kernel_rfl) (by first | rfl | kernel_rfl) (by (try simp only [sxA, sxB, sxC, Act.put, sxD, sxE, sxF]); first | done | with_reducible rfl | rfl) s1 (hid (i2.out.ext e1)) ni
  exact AllReadyH.nil
 have N1_5 : ∀ (k2 : Nat) (k7 : Nat) (f_ : Nat) (l_ : Array Bool) (W0 : World) (a_ : Act), f_ = 6 → l_ = #[true, true, true, false, false, true, true, true, false, false, false, false] → a_ = ({ tmps := #[yA,.slice (some ⟨gm, 0, none⟩) 4 4,yC,.pointer (some ⟨T, 0, none⟩),yE,yF,yG,yH,yI,yJ,yK,yL,yM,yN,yO,yP,yQ,yR,yS,yT,yU,yV,yW,yX,yY,yZ,zA,zB,zC,zD,zE,zF,zG,zH,zI,zJ,zK,zL,zM,zN,zO,zP,zQ,zR,zS,zT,zU,zV,zW,zX,zY,zZ,uA,uB,uC,uD,uE,uF,uG,uH,uI,uJ,uK,uL,uM,uN,uO,uP,uQ,uR,uS,uT,uU,uV,uW,uX,uY,.slice (some ⟨gm, 0, none⟩) 4 4,.agg #[.int .i64 100, .int .i64 10],.slice (some ⟨k2, 0, none⟩) 4 4,iC,iD,.slice (some ⟨gm, 0, none⟩) 4 4,.agg #[.int .i64 100, .int .i64 10],.slice (some ⟨k7, 0, none⟩) 4 4,iH,iI,iJ,iK,iL,iM,iN,iO,iP,iQ,iR,iS,iT,iU,iV,iW,iX,iY,iZ,oA,oB,oC,oD,oE,oF,oG,oH,oI,oJ,oK,oL,oM,oN,oO,oP,oQ,oR,oS,oT,oU,oV,oW,oX,oY,oZ,qA,qB,qC,qD,qE,qF,qG,qH,qI,qJ,qK,qL,qM,qN,qO,qP,qQ,qR,qS,qT,qU,qV,qW,qX,qY,qZ,rA,rB,rC,rD,rE,rF,rG,rH,rI,rJ,rK,rL,rM,rN,rO,rP,rQ,rR,rS,rT,rU,rV,rW,rX,rY,rZ,jA,jB,jC,jD,jE,jF,jG,jH,jI,jJ,jK,jL,jM,jN,jO,jP,jQ,jR,jS,jT,jU,jV,jW,jX,jY,jZ,nA,nB,nC,nD,nE,nF,nG,nH,nI,nJ,nK,nL,nM,nN,nO,nP,nQ,nR,nS,nT,nU,nV,nW,nX,nY,nZ,gA,gB,gC,gD,gE,gF,gG,gH,gI,gJ,gK,gL,gM,gN,gO,gP,gQ,gR,gS,gT,gU,gV,gW,gX,gY,gZ,fA,fB,fC,fD,fE,fF,fG,fH,fI,fJ,fK,fL,fM,fN,fO,fP,fQ,fR,fS,fT,fU,fV,fW,fX,fY,fZ,dA,dB,dC,dD,dE,dF,dG,dH,dI,dJ,dK,dL,dM,dN,dO,dP,dQ,dR,dS,dT,dU,dV,dW,dX,dY,dZ,cA,cB,cC,cD,cE,cF,cG,cH,cI,cJ,cK], defers := [] } : Act) → Ext w W0 → Hid (Ints W0 (some ⟨k2, 0, none⟩) [297, 0, 3, 250]) → Hid (Ints W0 (some ⟨k7, 0, none⟩) [4, 0, 0, 5]) → F f_ l_ a_ W0 := by
  intro k2 k7 f_ l_ W0 a_ hf_ hl_ ha_ s0 i2 i7
  subst hf_ hl_ ha_
  refine (hF.out _ _ _ _).2 ?_
  clear N1_0 N1_1 N1_2 N1_4
  refine wpAnyH_ready (rs := [3]) (by kernel_rfl) (by simp) ?_
  refine AllReadyH.cons (o := _) rfl (fun K hK => ?_) AllReadyH.nil
  refine tk_call (by kernel_rfl) (longs_any (.slice (some ⟨k2, 0, none⟩) 4 4) _) (by kernel_rfl) ?_; rintro e W1 ⟨rfl, rfl⟩; refine ⟨_, rfl, ?_⟩
  refine hK.out _ _ s0 (fun _ => ?_)
  clear hK K
  try simp only [sxA, sxB, sxC, Act.put, sxD, sxE, sxF]
  refine (hF.out _ _ _ _).1 ?_
  exact N1_3 k2 k7 _ _ W0 _ (by first | rfl | kernel_rfl) (by first | rfl | kernel_rfl) (by (try simp only [sxA, sxB, sxC, Act.put, sxD, sxE, sxF]); first | done | with_reducible rfl | rfl) s0 i2 i7
 have N1_6 : ∀ (k2 : Nat) (f_ : Nat) (l_ : Array Bool) (W0 : World) (a_ : Act), f_ = 7 → l_ = #[true, true, true, false, false, true, true, false, false, false, false, false] → a_ = ({ tmps := #[yA,.slice (some ⟨gm, 0, none⟩) 4 4,yC,.pointer (some ⟨T, 0, none⟩),yE,yF,yG,yH,yI,yJ,yK,yL,yM,yN,yO,yP,yQ,yR,yS,yT,yU,yV,yW,yX,yY,yZ,zA,zB,zC,zD,zE,zF,zG,zH,zI,zJ,zK,zL,zM,zN,zO,zP,zQ,zR,zS,zT,zU,zV,zW,zX,zY,zZ,uA,uB,uC,uD,uE,uF,uG,uH,uI,uJ,uK,uL,uM,uN,uO,uP,uQ,uR,uS,uT,uU,uV,uW,uX,uY,.slice (some ⟨gm, 0, none⟩) 4 4,.agg #[.int .i64 100, .int .i64 10],.slice (some ⟨k2, 0, none⟩) 4 4,iC,iD,.slice (some ⟨gm, 0, none⟩) 4 4,.agg #[.int .i64 100, .int .i64 10],iG,iH,iI,iJ,iK,iL,iM,iN,iO,iP,iQ,iR,iS,iT,iU,iV,iW,iX,iY,iZ,oA,oB,oC,oD,oE,oF,oG,oH,oI,oJ,oK,oL,oM,oN,oO,oP,oQ,oR,oS,oT,oU,oV,oW,oX,oY,oZ,qA,qB,qC,qD,qE,qF,qG,qH,qI,qJ,qK,qL,qM,qN,qO,qP,qQ,qR,qS,qT,qU,qV,qW,qX,qY,qZ,rA,rB,rC,rD,rE,rF,rG,rH,rI,rJ,rK,rL,rM,rN,rO,rP,rQ,rR,rS,rT,rU,rV,rW,rX,rY,rZ,jA,jB,jC,jD,jE,jF,jG,jH,jI,jJ,jK,jL,jM,jN,jO,jP,jQ,jR,jS,jT,jU,jV,jW,jX,jY,jZ,nA,nB,nC,nD,nE,nF,nG,nH,nI,nJ,nK,nL,nM,nN,nO,nP,nQ,nR,nS,nT,nU,nV,nW,nX,nY,nZ,gA,gB,gC,gD,gE,gF,gG,gH,gI,gJ,gK,gL,gM,gN,gO,gP,gQ,gR,gS,gT,gU,gV,gW,gX,gY,gZ,fA,fB,fC,fD,fE,fF,fG,fH,fI,fJ,fK,fL,fM,fN,fO,fP,fQ,fR,fS,fT,fU,fV,fW,fX,fY,fZ,dA,dB,dC,dD,dE,dF,dG,dH,dI,dJ,dK,dL,dM,dN,dO,dP,dQ,dR,dS,dT,dU,dV,dW,dX,dY,dZ,cA,cB,cC,cD,cE,cF,cG,cH,cI,cJ,cK], defers := [] } : Act) → Ext w W0 → Hid (Ints W0 (some ⟨k2, 0, none⟩) [297, 0, 3, 250]) → F f_ l_ a_ W0 := by
  intro k2 f_ l_ W0 a_ hf_ hl_ ha_ s0 i2
  subst hf_ hl_ ha_
  refine (hF.out _ _ _ _).2 ?_
  clear N1_0 N1_1 N1_2 N1_3
  refine wpAnyH_ready (rs := [3, 7]) (by kernel_rfl) (by simp) ?_
  refine AllReadyH.cons (o := _) rfl (fun K hK => ?_) ?_
  ·skip
   refine tk_call (by kernel_rfl) (longs_any (.slice (some ⟨k2, 0, none⟩) 4 4) _) (by kernel_rfl) ?_; rintro e W1 ⟨rfl, rfl⟩; refine ⟨_, rfl, ?_⟩
   refine hK.out _ _ s0 (fun _ => ?_)
   clear hK K
   try simp only [sxA, sxB, sxC, Act.put, sxD, sxE, sxF]
   refine (hF.out _ _ _ _).1 ?_
   exact N1_4 k2 _ _ W0 _ (by first | rfl | kernel_rfl) (by first | rfl | kernel_rfl) (by (try simp only [sxA, sxB, sxC, Act.put, sxD, sxE, sxF]); first | done | with_reducible rfl | rfl) s0 i2
  refine AllReadyH.cons (o := _) rfl (fun K hK => ?_) ?_
  ·skip
   go_simp
   refine hK.out _ _ (Ext.alloc s0 _) (fun _ => ?_)
   clear hK K
   try simp only [sxA, sxB, sxC, Act.put, sxD, sxE, sxF]
   refine name_any (fun W1 hW => ?_)
   have e1 : Ext W0 W1 := by rw [hW]; exact Ext.alloc (Ext.refl _) _
   have s1 := s0.trans e1
   have ni := hid (show Ints W1 (some ⟨W0.heap.size, 0, none⟩) [4, 0, 0, 5] by rw [hW]; exact litM (w := W0) [4, 0, 0, 5] (t := 2) rfl)
   clear hW
   refine (hF.out _ _ _ _).1 ?_
   exact N1_5 k2 W0.heap.size _ _ W1 _ (by first | rfl | kernel_rfl) (by first | rfl | kernel_rfl) (by (try simp only [sxA, sxB, sxC, Act.put, sxD, sxE, sxF]); first | done | with_reducible rfl | rfl) s1 (hid (i2.out.ext e1)) ni
  exact AllReadyH.nil
 have N1_7 : ∀ (k7 : Nat) (f_ : Nat) (l_ : Array Bool) (W0 : World) (a_ : Act), f_ = 7 → l_ = #[true, true, false, false, false, true, true, true, false, false, false, false] → a_ = ({ tmps := #[yA,.slice (some ⟨gm, 0, none⟩) 4 4,yC,.pointer (some ⟨T, 0, none⟩),yE,yF,yG,yH,yI,yJ,yK,yL,yM,yN,yO,yP,yQ,yR,yS,yT,yU,yV,yW,yX,yY,yZ,zA,zB,zC,zD,zE,zF,zG,zH,zI,zJ,zK,zL,zM,zN,zO,zP,zQ,zR,zS,zT,zU,zV,zW,zX,zY,zZ,uA,uB,uC,uD,uE,uF,uG,uH,uI,uJ,uK,uL,uM,uN,uO,uP,uQ,uR,uS,uT,uU,uV,uW,uX,uY,.slice (some ⟨gm, 0, none⟩) 4 4,.agg #[.int .i64 100, .int .i64 10],iB,iC,iD,.slice (some ⟨gm, 0, none⟩) 4 4,.agg #[.int .i64 100, .int .i64 10],.slice (some ⟨k7, 0, none⟩) 4 4,iH,iI,iJ,iK,iL,iM,iN,iO,iP,iQ,iR,iS,iT,iU,iV,iW,iX,iY,iZ,oA,oB,oC,oD,oE,oF,oG,oH,oI,oJ,oK,oL,oM,oN,oO,oP,oQ,oR,oS,oT,oU,oV,oW,oX,oY,oZ,qA,qB,qC,qD,qE,qF,qG,qH,qI,qJ,qK,qL,qM,qN,qO,qP,qQ,qR,qS,qT,qU,qV,qW,qX,qY,qZ,rA,rB,rC,rD,rE,rF,rG,rH,rI,rJ,rK,rL,rM,rN,rO,rP,rQ,rR,rS,rT,rU,rV,rW,rX,rY,rZ,jA,jB,jC,jD,jE,jF,jG,jH,jI,jJ,jK,jL,jM,jN,jO,jP,jQ,jR,jS,jT,jU,jV,jW,jX,jY,jZ,nA,nB,nC,nD,nE,nF,nG,nH,nI,nJ,nK,nL,nM,nN,nO,nP,nQ,nR,nS,nT,nU,nV,nW,nX,nY,nZ,gA,gB,gC,gD,gE,gF,gG,gH,gI,gJ,gK,gL,gM,gN,gO,gP,gQ,gR,gS,gT,gU,gV,gW,gX,gY,gZ,fA,fB,fC,fD,fE,fF,fG,fH,fI,fJ,fK,fL,fM,fN,fO,fP,fQ,fR,fS,fT,fU,fV,fW,fX,fY,fZ,dA,dB,dC,dD,dE,dF,dG,dH,dI,dJ,dK,dL,dM,dN,dO,dP,dQ,dR,dS,dT,dU,dV,dW,dX,dY,dZ,cA,cB,cC,cD,cE,cF,cG,cH,cI,cJ,cK], defers := [] } : Act) → Ext w W0 → Hid (Ints W0 (some ⟨k7, 0, none⟩) [4, 0, 0, 5]) → F f_ l_ a_ W0 := by
  intro k7 f_ l_ W0 a_ hf_ hl_ ha_ s0 i7
  subst hf_ hl_ ha_
  refine (hF.out _ _ _ _).2 ?_
  clear N1_0 N1_1 N1_2 N1_3 N1_4 N1_6
  refine wpAnyH_ready (rs := [2]) (by kernel_rfl) (by simp) ?_
  refine AllReadyH.cons (o := _) rfl (fun K hK => ?_) AllReadyH.nil
  go_simp
  refine hK.out _ _ (Ext.alloc s0 _) (fun _ => ?_)
  clear hK K
  try simp only [sxA, sxB, sxC, Act.put, sxD, sxE, sxF]
  refine name_any (fun W1 hW => ?_)
  have e1 : Ext W0 W1 := by rw [hW]; exact Ext.alloc (Ext.refl _) _
  have s1 := s0.trans e1
  have ni := hid (show Ints W1 (some ⟨W0.heap.size, 0, none⟩) [297, 0, 3, 250] by rw [hW]; exact litM (w := W0) [297, 0, 3, 250] (t := 2) rfl)
  clear hW
  refine (hF.out _ _ _ _).1 ?_
  exact N1_5 W0.heap.size k7 _ _ W1 _ (by first | rfl | kernel_rfl) (by first | rfl | kernel_rfl) (by (try simp only [sxA, sxB, sxC, Act.put, sxD, sxE, sxF]); first | done | with_reducible rfl | rfl) s1 ni (hid (i7.out.ext e1))
 have N1_8 : ∀ (f_ : Nat) (l_ : Array Bool) (W0 : World) (a_ : Act), f_ = 8 → l_ = #[true, true, false, false, false, true, true, false, false, false, false, false] → a_ = ({ tmps := #[yA,.slice (some ⟨gm, 0, none⟩) 4 4,yC,.pointer (some ⟨T, 0, none⟩),yE,yF,yG,yH,yI,yJ,yK,yL,yM,yN,yO,yP,yQ,yR,yS,yT,yU,yV,yW,yX,yY,yZ,zA,zB,zC,zD,zE,zF,zG,zH,zI,zJ,zK,zL,zM,zN,zO,zP,zQ,zR,zS,zT,zU,zV,zW,zX,zY,zZ,uA,uB,uC,uD,uE,uF,uG,uH,uI,uJ,uK,uL,uM,uN,uO,uP,uQ,uR,uS,uT,uU,uV,uW,uX,uY,.slice (some ⟨gm, 0, none⟩) 4 4,.agg #[.int .i64 100, .int .i64 10],iB,iC,iD,.slice (some ⟨gm, 0, none⟩) 4 4,.agg #[.int .i64 100, .int .i64 10],iG,iH,iI,iJ,iK,iL,iM,iN,iO,iP,iQ,iR,iS,iT,iU,iV,iW,iX,iY,iZ,oA,oB,oC,oD,oE,oF,oG,oH,oI,oJ,oK,oL,oM,oN,oO,oP,oQ,oR,oS,oT,oU,oV,oW,oX,oY,oZ,qA,qB,qC,qD,qE,qF,qG,qH,qI,qJ,qK,qL,qM,qN,qO,qP,qQ,qR,qS,qT,qU,qV,qW,qX,qY,qZ,rA,rB,rC,rD,rE,rF,rG,rH,rI,rJ,rK,rL,rM,rN,rO,rP,rQ,rR,rS,rT,rU,rV,rW,rX,rY,rZ,jA,jB,jC,jD,jE,jF,jG,jH,jI,jJ,jK,jL,jM,jN,jO,jP,jQ,jR,jS,jT,jU,jV,jW,jX,jY,jZ,nA,nB,nC,nD,nE,nF,nG,nH,nI,nJ,nK,nL,nM,nN,nO,nP,nQ,nR,nS,nT,nU,nV,nW,nX,nY,nZ,gA,gB,gC,gD,gE,gF,gG,gH,gI,gJ,gK,gL,gM,gN,gO,gP,gQ,gR,gS,gT,gU,gV,gW,gX,gY,gZ,fA,fB,fC,fD,fE,fF,fG,fH,fI,fJ,fK,fL,fM,fN,fO,fP,fQ,fR,fS,fT,fU,fV,fW,fX,fY,fZ,dA,dB,dC,dD,dE,dF,dG,dH,dI,dJ,dK,dL,dM,dN,dO,dP,dQ,dR,dS,dT,dU,dV,dW,dX,dY,dZ,cA,cB,cC,cD,cE,cF,cG,cH,cI,cJ,cK], defers := [] } : Act) → Ext w W0 → F f_ l_ a_ W0 := by
  intro  f_ l_ W0 a_ hf_ hl_ ha_ s0
  subst hf_ hl_ ha_
  refine (hF.out _ _ _ _).2 ?_
  clear N1_0 N1_1 N1_2 N1_3 N1_4 N1_5
  refine wpAnyH_ready (rs := [2, 7]) (by kernel_rfl) (by simp) ?_
  refine AllReadyH.cons (o := _) rfl (fun K hK => ?_) ?_
  ·skip
   go_simp
   refine hK.out _ _ (Ext.alloc s0 _) (fun _ => ?_)
   clear hK K
   try simp only [sxA, sxB, sxC, Act.put, sxD, sxE, sxF]
   refine name_any (fun W1 hW => ?_)
   have e1 : Ext W0 W1 := by rw [hW]; exact Ext.alloc (Ext.refl _) _
   have s1 := s0.trans e1
   have ni := hid (show Ints W1 (some ⟨W0.heap.size, 0, none⟩) [297, 0, 3, 250] by rw [hW]; exact litM (w := W0) [297, 0, 3, 250] (t := 2) rfl)
   clear hW
   refine (hF.out _ _ _ _).1 ?_
   exact N1_6 W0.heap.size _ _ W1 _ (by first | rfl | kernel_rfl) (by first | rfl | kernel_rfl) (by (try simp only [sxA, sxB, sxC, Act.put, sxD, sxE, sxF]); first | done | with_reducible rfl | rfl) s1 ni
  refine AllReadyH.cons (o := _) rfl (fun K hK => ?_) ?_
  ·skip
   go_simp
   refine hK.out _ _ (Ext.alloc s0 _) (fun _ => ?_)
   clear hK K
   try simp only [sxA, sxB, sxC, Act.put, sxD, sxE, sxF]
   refine name_any (fun W1 hW => ?_)
   have e1 : Ext W0 W1 := by rw [hW]; exact Ext.alloc (Ext.refl _) _
   have s1 := s0.trans e1
   have ni := hid (show Ints W1 (some ⟨W0.heap.size, 0, none⟩) [4, 0, 0, 5] by rw [hW]; exact litM (w := W0) [4, 0, 0, 5] (t := 2) rfl)
   clear hW
   refine (hF.out _ _ _ _).1 ?_
   exact N1_7 W0.heap.size _ _ W1 _ (by first | rfl | kernel_rfl) (by first | rfl | kernel_rfl) (by (try simp only [sxA, sxB, sxC, Act.put, sxD, sxE, sxF]); first | done | with_reducible rfl | rfl) s1 ni
  exact AllReadyH.nil
 rw [hA_.out]
 refine (hF.out _ _ _ _).2 ?_
 refine tkB (i := 0) (v := ?_) rfl hpan ?yl ?_
 case yl => (intro w hSw; have k_ := hRD_.out w hSw; go_simp); with_reducible rfl
 try simp only [sxA, sxB, sxC, Act.put, sxD, sxE, sxF]
 refine tkB (i := 1) (v := ?_) rfl hpan ?yl ?_
 case yl => (intro w hSw; have k_ := hRD_.out w hSw; go_simp); with_reducible rfl
 try simp only [sxA, sxB, sxC, Act.put, sxD, sxE, sxF]
 refine tkB (i := 5) (v := ?_) rfl hpan ?yl ?_
 case yl => (intro w hSw; have k_ := hRD_.out w hSw; go_simp); with_reducible rfl
 try simp only [sxA, sxB, sxC, Act.put, sxD, sxE, sxF]
 refine tkB (i := 6) (v := ?_) rfl hpan ?yl ?_
 case yl => (intro w hSw; have k_ := hRD_.out w hSw; go_simp); with_reducible rfl
 try simp only [sxA, sxB, sxC, Act.put, sxD, sxE, sxF]
 refine (hF.out _ _ _ _).1 ?_
 exact N1_8 _ _ W0 _ (by first | rfl | kernel_rfl) (by first | rfl | kernel_rfl) (by (try simp only [sxA, sxB, sxC, Act.put, sxD, sxE, sxF]); first | done | with_reducible rfl | rfl) s0
set_option maxHeartbeats 40000000 in
theorem stW15 {A_ : Act} {yA yB yE yF yG yH yI yJ yK yL yM yN yO yP yQ yR yS yT yU yV yW yX yY yZ zA zB zC zD zE zF zG zH zI zJ zK zL zM zN zO zP zQ zR zS zT zU zV zW zX zY zZ uA uB uC uD uE uF uG uH uI uJ uK uL uM uN uO uP uQ uR uS uT uU uV uW uX uY uZ iA iB iC iD iE iF iG iH iI iJ iK iL iM iN iO iP iQ iR iS iT iU iV iW iX iY iZ oA oB oC oD oE oF oG oH oI oJ oK oL oM oN oO oP oQ oR oS oT oU oV oW oX oY oZ qA qB qC qD qE qF qG qH qI qJ qK qL qM qN qO qP qQ qR qS qT qU qV qW qX qY qZ rA rB rC rD rE rF rG rH rI rJ rK rL rM rN rO rP rQ rR rS rT rU rV rW rX rY rZ jA jB jC jD jE jF jG jH jI jJ jK jL jM jN jO jP jQ jR jS jT jU jV jW jX jY jZ nA nB nC nD nE nF nG nH nI nJ nK nL nM nN nO nP nQ nR nS nT nU nV nW nX nY nZ gA gB gC gD gE gF gG gH gI gJ gK gL gM gN gO gP gQ gR gS gT gU gV gW gX gY gZ fA fB fC fD fE fF fG fH fI fJ fK fL fM fN fO fP fQ fR fS fT fU fV fW fX fY fZ dA dB dC dD dE dF dG dH dI dJ dK dL dM dN dO dP dQ dR dS dT dU dV dW dX dY dZ cA cB cC cD cE cF cG cH cI cJ cK : Value} {gv T : Nat} {w : World} (hA0_ : A_ = { tmps := #[yA, yB, .slice (some ⟨gv, 0, none⟩) 2 2, .pointer (some ⟨T, 0, none⟩), yE, yF, yG, yH, yI, yJ, yK, yL, yM, yN, yO, yP, yQ, yR, yS, yT, yU, yV, yW, yX, yY, yZ, zA, zB, zC, zD, zE, zF, zG, zH, zI, zJ, zK, zL, zM, zN, zO, zP, zQ, zR, zS, zT, zU, zV, zW, zX, zY, zZ, uA, uB, uC, uD, uE, uF, uG, uH, uI, uJ, uK, uL, uM, uN, uO, uP, uQ, uR, uS, uT, uU, uV, uW, uX, uY, uZ, iA, iB, iC, iD, iE, iF, iG, iH, iI, iJ, iK, iL, iM, iN, iO, iP, iQ, iR, iS, iT, iU, iV, iW, iX, iY, iZ, oA, oB, oC, oD, oE, oF, oG, oH, oI, oJ, oK, oL, oM, oN, oO, oP, oQ, oR, oS, oT, oU, oV, oW, oX, oY, oZ, qA, qB, qC, qD, qE, qF, qG, qH, qI, qJ, qK, qL, qM, qN, qO, qP, qQ, qR, qS, qT, qU, qV, qW, qX, qY, qZ, rA, rB, rC, rD, rE, rF, rG, rH, rI, rJ, rK, rL, rM, rN, rO, rP, rQ, rR, rS, rT, rU, rV, rW, rX, rY, rZ, jA, jB, jC, jD, jE, jF, jG, jH, jI, jJ, jK, jL, jM, jN, jO, jP, jQ, jR, jS, jT, jU, jV, jW, jX, jY, jZ, nA, nB, nC, nD, nE, nF, nG, nH, nI, nJ, nK, nL, nM, nN, nO, nP, nQ, nR, nS, nT, nU, nV, nW, nX, nY, nZ, gA, gB, gC, gD, gE, gF, gG, gH, gI, gJ, gK, gL, gM, gN, gO, gP, gQ, gR, gS, gT, gU, gV, gW, gX, gY, gZ, fA, fB, fC, fD, fE, fF, fG, fH, fI, fJ, fK, fL, fM, fN, fO, fP, fQ, fR, fS, fT, fU, fV, fW, fX, fY, fZ, dA, dB, dC, dD, dE, dF, dG, dH, dI, dJ, dK, dL, dM, dN, dO, dP, dQ, dR, dS, dT, dU, dV, dW, dX, dY, dZ, cA, cB, cC, cD, cE, cF, cG, cH, cI, cJ, cK], defers := [] }) (hv : Mts w (some ⟨gv, 0, none⟩) vL) (t0 : w.cell? ⟨T, 0, none⟩ = some (.int .i64 100)) (t1 : w.cell? ⟨T, 1, none⟩ = some (.int .i64 10)) :
 Code.wp Try.prog (rgn Try.f18 15) (fun e a' w' => e = .normal ∧ a' = ({ tmps := #[yA,yB,.slice (some ⟨gv, 0, none⟩) 2 2,.pointer (some ⟨T, 0, none⟩),yE,yF,yG,yH,yI,yJ,yK,yL,yM,yN,yO,yP,yQ,yR,yS,yT,yU,yV,yW,yX,yY,yZ,zA,zB,zC,zD,zE,.int .i64 0,.int .i64 14,zH,zI,zJ,zK,zL,zM,zN,zO,zP,zQ,zR,zS,zT,zU,zV,zW,zX,zY,zZ,uA,uB,uC,uD,uE,uF,uG,uH,uI,uJ,uK,uL,uM,uN,uO,uP,uQ,uR,uS,uT,uU,uV,uW,uX,uY,uZ,iA,iB,iC,iD,iE,iF,iG,iH,iI,iJ,iK,iL,iM,iN,iO,iP,iQ,iR,iS,iT,iU,iV,iW,iX,iY,iZ,oA,oB,oC,oD,oE,oF,oG,oH,oI,oJ,oK,oL,oM,oN,oO,oP,oQ,oR,oS,oT,oU,oV,oW,oX,oY,oZ,qA,qB,qC,qD,qE,qF,qG,qH,qI,qJ,qK,.slice (some ⟨gv, 0, none⟩) 2 2,.agg #[.int .i64 100, .int .i64 10],.agg #[.int .i64 0, .int .i64 220, .int .i64 1, .int .i64 0],.int .i64 0,.slice (some ⟨gv, 0, none⟩) 2 2,.agg #[.int .i64 100, .int .i64 10],.agg #[.int .i64 0, .int .i64 1, .int .i64 0, .int .i64 0],.int .i64 14,qT,qU,qV,qW,qX,qY,qZ,rA,rB,rC,rD,rE,rF,rG,rH,rI,rJ,rK,rL,rM,rN,rO,rP,rQ,rR,rS,rT,rU,rV,rW,rX,rY,rZ,jA,jB,jC,jD,jE,jF,jG,jH,jI,jJ,jK,jL,jM,jN,jO,jP,jQ,jR,jS,jT,jU,jV,jW,jX,jY,jZ,nA,nB,nC,nD,nE,nF,nG,nH,nI,nJ,nK,nL,nM,nN,nO,nP,nQ,nR,nS,nT,nU,nV,nW,nX,nY,nZ,gA,gB,gC,gD,gE,gF,gG,gH,gI,gJ,gK,gL,gM,gN,gO,gP,gQ,gR,gS,gT,gU,gV,gW,gX,gY,gZ,fA,fB,fC,fD,fE,fF,fG,fH,fI,fJ,fK,fL,fM,fN,fO,fP,fQ,fR,fS,fT,fU,fV,fW,fX,fY,fZ,dA,dB,dC,dD,dE,dF,dG,dH,dI,dJ,dK,dL,dM,dN,dO,dP,dQ,dR,dS,dT,dU,dV,dW,dX,dY,dZ,cA,cB,cC,cD,cE,cF,cG,cH,cI,cJ,cK], defers := [] } : Act) ∧ Ext w w') A_ w := by
 conv => arg 2; whnf
 refine st_intro (fun Q2 hQ2 => ?_)
 have hA_ := hid hA0_
 clear hA0_
 have hpan : ∀ c a a' w w', Q2 (.panic c) a w → Q2 (.panic c) a' w' := by rw [hQ2]; rintro c a a' w w' ⟨h, _⟩; cases h
 replace hQ2 := hid hQ2
 replace hv := hid hv
 have hRD_ := hid (fun w' (x_ : Ext w w') => And.intro (Ext.cell x_ t0) (Ext.cell x_ t1))
 refine wp_region_held_drew (S := fun w' => Ext w w') (by kernel_rfl) exE fun hHeld => ?_
 try simp only [List.append_eq, List.cons_append, List.nil_append]
 refine name_any (fun W0 hW => ?_)
 have s0 : Ext w W0 := by rw [hW]; exact hHeld
 clear hW hHeld
 refine wpF_intro 10 (by kernel_rfl) (fun F hF => ?_)
 replace hF := hid hF
 have N1_0 : ∀ (f_ : Nat) (l_ : Array Bool) (W0 : World) (a_ : Act), f_ = 3 → l_ = #[true, true, true, true, true, true, true, false, false, false] → a_ = ({ tmps := #[yA,yB,.slice (some ⟨gv, 0, none⟩) 2 2,.pointer (some ⟨T, 0, none⟩),yE,yF,yG,yH,yI,yJ,yK,yL,yM,yN,yO,yP,yQ,yR,yS,yT,yU,yV,yW,yX,yY,yZ,zA,zB,zC,zD,zE,zF,zG,zH,zI,zJ,zK,zL,zM,zN,zO,zP,zQ,zR,zS,zT,zU,zV,zW,zX,zY,zZ,uA,uB,uC,uD,uE,uF,uG,uH,uI,uJ,uK,uL,uM,uN,uO,uP,uQ,uR,uS,uT,uU,uV,uW,uX,uY,uZ,iA,iB,iC,iD,iE,iF,iG,iH,iI,iJ,iK,iL,iM,iN,iO,iP,iQ,iR,iS,iT,iU,iV,iW,iX,iY,iZ,oA,oB,oC,oD,oE,oF,oG,oH,oI,oJ,oK,oL,oM,oN,oO,oP,oQ,oR,oS,oT,oU,oV,oW,oX,oY,oZ,qA,qB,qC,qD,qE,qF,qG,qH,qI,qJ,qK,.slice (some ⟨gv, 0, none⟩) 2 2,.agg #[.int .i64 100, .int .i64 10],.agg #[.int .i64 0, .int .i64 220, .int .i64 1, .int .i64 0],.int .i64 0,.slice (some ⟨gv, 0, none⟩) 2 2,.agg #[.int .i64 100, .int .i64 10],.agg #[.int .i64 0, .int .i64 1, .int .i64 0, .int .i64 0],qS,qT,qU,qV,qW,qX,qY,qZ,rA,rB,rC,rD,rE,rF,rG,rH,rI,rJ,rK,rL,rM,rN,rO,rP,rQ,rR,rS,rT,rU,rV,rW,rX,rY,rZ,jA,jB,jC,jD,jE,jF,jG,jH,jI,jJ,jK,jL,jM,jN,jO,jP,jQ,jR,jS,jT,jU,jV,jW,jX,jY,jZ,nA,nB,nC,nD,nE,nF,nG,nH,nI,nJ,nK,nL,nM,nN,nO,nP,nQ,nR,nS,nT,nU,nV,nW,nX,nY,nZ,gA,gB,gC,gD,gE,gF,gG,gH,gI,gJ,gK,gL,gM,gN,gO,gP,gQ,gR,gS,gT,gU,gV,gW,gX,gY,gZ,fA,fB,fC,fD,fE,fF,fG,fH,fI,fJ,fK,fL,fM,fN,fO,fP,fQ,fR,fS,fT,fU,fV,fW,fX,fY,fZ,dA,dB,dC,dD,dE,dF,dG,dH,dI,dJ,dK,dL,dM,dN,dO,dP,dQ,dR,dS,dT,dU,dV,dW,dX,dY,dZ,cA,cB,cC,cD,cE,cF,cG,cH,cI,cJ,cK], defers := [] } : Act) → Ext w W0 → F f_ l_ a_ W0 := by
  intro  f_ l_ W0 a_ hf_ hl_ ha_ s0
  subst hf_ hl_ ha_
  refine (hF.out _ _ _ _).2 ?_
  refine wpAnyH_ready (rs := [7]) (by kernel_rfl) (by simp) ?_
  refine AllReadyH.cons (o := _) rfl (fun K hK => ?_) AllReadyH.nil
  refine tk_call (by kernel_rfl) (cNvr2 _ 2 _ (hv.out.ext s0)) (by kernel_rfl) ?_; rintro e W1 ⟨rfl, e1⟩; refine ⟨_, rfl, ?_⟩
  have s1 := s0.trans e1
  refine hK.out _ _ s1 (fun _ => ?_)
  clear hK K
  try simp only [sxA, sxB, sxC, Act.put, sxD, sxE, sxF]
  refine tkB (i := 8) (v := ?_) rfl hpan ?yl ?_
  case yl => (intro w hSw; have k_ := hRD_.out w hSw; go_simp); with_reducible rfl
  try simp only [sxA, sxB, sxC, Act.put, sxD, sxE, sxF]
  refine tkB (i := 9) (v := ?_) rfl hpan ?yl ?_
  case yl => (intro w hSw; have k_ := hRD_.out w hSw; go_simp); with_reducible rfl
  try simp only [sxA, sxB, sxC, Act.put, sxD, sxE, sxF]
  refine wpAnyH_done (by kernel_rfl) ?_ _
  try simp only [sxA, sxB, sxC, Act.put, sxD, sxE, sxF]
  rw [hQ2.out]
  refine ⟨rfl, ?eq1_1, s1⟩
  case eq1_1 => (first | with_reducible rfl | rfl)
 have N1_1 : ∀ (f_ : Nat) (l_ : Array Bool) (W0 : World) (a_ : Act), f_ = 4 → l_ = #[true, true, true, true, true, true, false, false, false, false] → a_ = ({ tmps := #[yA,yB,.slice (some ⟨gv, 0, none⟩) 2 2,.pointer (some ⟨T, 0, none⟩),yE,yF,yG,yH,yI,yJ,yK,yL,yM,yN,yO,yP,yQ,yR,yS,yT,yU,yV,yW,yX,yY,yZ,zA,zB,zC,zD,zE,zF,zG,zH,zI,zJ,zK,zL,zM,zN,zO,zP,zQ,zR,zS,zT,zU,zV,zW,zX,zY,zZ,uA,uB,uC,uD,uE,uF,uG,uH,uI,uJ,uK,uL,uM,uN,uO,uP,uQ,uR,uS,uT,uU,uV,uW,uX,uY,uZ,iA,iB,iC,iD,iE,iF,iG,iH,iI,iJ,iK,iL,iM,iN,iO,iP,iQ,iR,iS,iT,iU,iV,iW,iX,iY,iZ,oA,oB,oC,oD,oE,oF,oG,oH,oI,oJ,oK,oL,oM,oN,oO,oP,oQ,oR,oS,oT,oU,oV,oW,oX,oY,oZ,qA,qB,qC,qD,qE,qF,qG,qH,qI,qJ,qK,.slice (some ⟨gv, 0, none⟩) 2 2,.agg #[.int .i64 100, .int .i64 10],.agg #[.int .i64 0, .int .i64 220, .int .i64 1, .int .i64 0],.int .i64 0,.slice (some ⟨gv, 0, none⟩) 2 2,.agg #[.int .i64 100, .int .i64 10],qR,qS,qT,qU,qV,qW,qX,qY,qZ,rA,rB,rC,rD,rE,rF,rG,rH,rI,rJ,rK,rL,rM,rN,rO,rP,rQ,rR,rS,rT,rU,rV,rW,rX,rY,rZ,jA,jB,jC,jD,jE,jF,jG,jH,jI,jJ,jK,jL,jM,jN,jO,jP,jQ,jR,jS,jT,jU,jV,jW,jX,jY,jZ,nA,nB,nC,nD,nE,nF,nG,nH,nI,nJ,nK,nL,nM,nN,nO,nP,nQ,nR,nS,nT,nU,nV,nW,nX,nY,nZ,gA,gB,gC,gD,gE,gF,gG,gH,gI,gJ,gK,gL,gM,gN,gO,gP,gQ,gR,gS,gT,gU,gV,gW,gX,gY,gZ,fA,fB,fC,fD,fE,fF,fG,fH,fI,fJ,fK,fL,fM,fN,fO,fP,fQ,fR,fS,fT,fU,fV,fW,fX,fY,fZ,dA,dB,dC,dD,dE,dF,dG,dH,dI,dJ,dK,dL,dM,dN,dO,dP,dQ,dR,dS,dT,dU,dV,dW,dX,dY,dZ,cA,cB,cC,cD,cE,cF,cG,cH,cI,cJ,cK], defers := [] } : Act) → Ext w W0 → F f_ l_ a_ W0 := by
  intro  f_ l_ W0 a_ hf_ hl_ ha_ s0
  subst hf_ hl_ ha_
  refine (hF.out _ _ _ _).2 ?_
  refine wpAnyH_ready (rs := [6]) (by kernel_rfl) (by simp) ?_
  refine AllReadyH.cons (o := _) rfl (fun K hK => ?_) AllReadyH.nil
  refine tk_call (by kernel_rfl) (proofL_any 0 1 0 0 _) (by kernel_rfl) ?_; rintro e W1 ⟨rfl, e1⟩; refine ⟨_, rfl, ?_⟩
  have s1 := s0.trans e1
  refine hK.out _ _ s1 (fun _ => ?_)
  clear hK K
  try simp only [sxA, sxB, sxC, Act.put, sxD, sxE, sxF]
  refine (hF.out _ _ _ _).1 ?_
  exact N1_0 _ _ W1 _ (by first | rfl | kernel_rfl) (by first | rfl | kernel_rfl) (by (try simp only [sxA, sxB, sxC, Act.put, sxD, sxE, sxF]); first | done | with_reducible rfl | rfl) s1
 have N1_2 : ∀ (f_ : Nat) (l_ : Array Bool) (W0 : World) (a_ : Act), f_ = 5 → l_ = #[true, true, true, false, true, true, false, false, false, false] → a_ = ({ tmps := #[yA,yB,.slice (some ⟨gv, 0, none⟩) 2 2,.pointer (some ⟨T, 0, none⟩),yE,yF,yG,yH,yI,yJ,yK,yL,yM,yN,yO,yP,yQ,yR,yS,yT,yU,yV,yW,yX,yY,yZ,zA,zB,zC,zD,zE,zF,zG,zH,zI,zJ,zK,zL,zM,zN,zO,zP,zQ,zR,zS,zT,zU,zV,zW,zX,zY,zZ,uA,uB,uC,uD,uE,uF,uG,uH,uI,uJ,uK,uL,uM,uN,uO,uP,uQ,uR,uS,uT,uU,uV,uW,uX,uY,uZ,iA,iB,iC,iD,iE,iF,iG,iH,iI,iJ,iK,iL,iM,iN,iO,iP,iQ,iR,iS,iT,iU,iV,iW,iX,iY,iZ,oA,oB,oC,oD,oE,oF,oG,oH,oI,oJ,oK,oL,oM,oN,oO,oP,oQ,oR,oS,oT,oU,oV,oW,oX,oY,oZ,qA,qB,qC,qD,qE,qF,qG,qH,qI,qJ,qK,.slice (some ⟨gv, 0, none⟩) 2 2,.agg #[.int .i64 100, .int .i64 10],.agg #[.int .i64 0, .int .i64 220, .int .i64 1, .int .i64 0],qO,.slice (some ⟨gv, 0, none⟩) 2 2,.agg #[.int .i64 100, .int .i64 10],qR,qS,qT,qU,qV,qW,qX,qY,qZ,rA,rB,rC,rD,rE,rF,rG,rH,rI,rJ,rK,rL,rM,rN,rO,rP,rQ,rR,rS,rT,rU,rV,rW,rX,rY,rZ,jA,jB,jC,jD,jE,jF,jG,jH,jI,jJ,jK,jL,jM,jN,jO,jP,jQ,jR,jS,jT,jU,jV,jW,jX,jY,jZ,nA,nB,nC,nD,nE,nF,nG,nH,nI,nJ,nK,nL,nM,nN,nO,nP,nQ,nR,nS,nT,nU,nV,nW,nX,nY,nZ,gA,gB,gC,gD,gE,gF,gG,gH,gI,gJ,gK,gL,gM,gN,gO,gP,gQ,gR,gS,gT,gU,gV,gW,gX,gY,gZ,fA,fB,fC,fD,fE,fF,fG,fH,fI,fJ,fK,fL,fM,fN,fO,fP,fQ,fR,fS,fT,fU,fV,fW,fX,fY,fZ,dA,dB,dC,dD,dE,dF,dG,dH,dI,dJ,dK,dL,dM,dN,dO,dP,dQ,dR,dS,dT,dU,dV,dW,dX,dY,dZ,cA,cB,cC,cD,cE,cF,cG,cH,cI,cJ,cK], defers := [] } : Act) → Ext w W0 → F f_ l_ a_ W0 := by
  intro  f_ l_ W0 a_ hf_ hl_ ha_ s0
  subst hf_ hl_ ha_
  refine (hF.out _ _ _ _).2 ?_
  clear N1_0
  refine wpAnyH_ready (rs := [3]) (by kernel_rfl) (by simp) ?_
  refine AllReadyH.cons (o := _) rfl (fun K hK => ?_) AllReadyH.nil
  refine tk_call (by kernel_rfl) (cNvr1 _ 2 _ (hv.out.ext s0)) (by kernel_rfl) ?_; rintro e W1 ⟨rfl, e1⟩; refine ⟨_, rfl, ?_⟩
  have s1 := s0.trans e1
  refine hK.out _ _ s1 (fun _ => ?_)
  clear hK K
  try simp only [sxA, sxB, sxC, Act.put, sxD, sxE, sxF]
  refine (hF.out _ _ _ _).1 ?_
  exact N1_1 _ _ W1 _ (by first | rfl | kernel_rfl) (by first | rfl | kernel_rfl) (by (try simp only [sxA, sxB, sxC, Act.put, sxD, sxE, sxF]); first | done | with_reducible rfl | rfl) s1
 have N1_3 : ∀ (f_ : Nat) (l_ : Array Bool) (W0 : World) (a_ : Act), f_ = 6 → l_ = #[true, true, false, false, true, true, false, false, false, false] → a_ = ({ tmps := #[yA,yB,.slice (some ⟨gv, 0, none⟩) 2 2,.pointer (some ⟨T, 0, none⟩),yE,yF,yG,yH,yI,yJ,yK,yL,yM,yN,yO,yP,yQ,yR,yS,yT,yU,yV,yW,yX,yY,yZ,zA,zB,zC,zD,zE,zF,zG,zH,zI,zJ,zK,zL,zM,zN,zO,zP,zQ,zR,zS,zT,zU,zV,zW,zX,zY,zZ,uA,uB,uC,uD,uE,uF,uG,uH,uI,uJ,uK,uL,uM,uN,uO,uP,uQ,uR,uS,uT,uU,uV,uW,uX,uY,uZ,iA,iB,iC,iD,iE,iF,iG,iH,iI,iJ,iK,iL,iM,iN,iO,iP,iQ,iR,iS,iT,iU,iV,iW,iX,iY,iZ,oA,oB,oC,oD,oE,oF,oG,oH,oI,oJ,oK,oL,oM,oN,oO,oP,oQ,oR,oS,oT,oU,oV,oW,oX,oY,oZ,qA,qB,qC,qD,qE,qF,qG,qH,qI,qJ,qK,.slice (some ⟨gv, 0, none⟩) 2 2,.agg #[.int .i64 100, .int .i64 10],qN,qO,.slice (some ⟨gv, 0, none⟩) 2 2,.agg #[.int .i64 100, .int .i64 10],qR,qS,qT,qU,qV,qW,qX,qY,qZ,rA,rB,rC,rD,rE,rF,rG,rH,rI,rJ,rK,rL,rM,rN,rO,rP,rQ,rR,rS,rT,rU,rV,rW,rX,rY,rZ,jA,jB,jC,jD,jE,jF,jG,jH,jI,jJ,jK,jL,jM,jN,jO,jP,jQ,jR,jS,jT,jU,jV,jW,jX,jY,jZ,nA,nB,nC,nD,nE,nF,nG,nH,nI,nJ,nK,nL,nM,nN,nO,nP,nQ,nR,nS,nT,nU,nV,nW,nX,nY,nZ,gA,gB,gC,gD,gE,gF,gG,gH,gI,gJ,gK,gL,gM,gN,gO,gP,gQ,gR,gS,gT,gU,gV,gW,gX,gY,gZ,fA,fB,fC,fD,fE,fF,fG,fH,fI,fJ,fK,fL,fM,fN,fO,fP,fQ,fR,fS,fT,fU,fV,fW,fX,fY,fZ,dA,dB,dC,dD,dE,dF,dG,dH,dI,dJ,dK,dL,dM,dN,dO,dP,dQ,dR,dS,dT,dU,dV,dW,dX,dY,dZ,cA,cB,cC,cD,cE,cF,cG,cH,cI,cJ,cK], defers := [] } : Act) → Ext w W0 → F f_ l_ a_ W0 := by
  intro  f_ l_ W0 a_ hf_ hl_ ha_ s0
  subst hf_ hl_ ha_
  refine (hF.out _ _ _ _).2 ?_
  clear N1_0 N1_1
  refine wpAnyH_ready (rs := [2]) (by kernel_rfl) (by simp) ?_
  refine AllReadyH.cons (o := _) rfl (fun K hK => ?_) AllReadyH.nil
  refine tk_call (by kernel_rfl) (proofL_any 0 220 1 0 _) (by kernel_rfl) ?_; rintro e W1 ⟨rfl, e1⟩; refine ⟨_, rfl, ?_⟩
  have s1 := s0.trans e1
  refine hK.out _ _ s1 (fun _ => ?_)
  clear hK K
  try simp only [sxA, sxB, sxC, Act.put, sxD, sxE, sxF]
  refine (hF.out _ _ _ _).1 ?_
  exact N1_2 _ _ W1 _ (by first | rfl | kernel_rfl) (by first | rfl | kernel_rfl) (by (try simp only [sxA, sxB, sxC, Act.put, sxD, sxE, sxF]); first | done | with_reducible rfl | rfl) s1
 rw [hA_.out]
 refine (hF.out _ _ _ _).2 ?_
 refine tkB (i := 0) (v := ?_) rfl hpan ?yl ?_
 case yl => (intro w hSw; have k_ := hRD_.out w hSw; go_simp); with_reducible rfl
 try simp only [sxA, sxB, sxC, Act.put, sxD, sxE, sxF]
 refine tkB (i := 1) (v := ?_) rfl hpan ?yl ?_
 case yl => (intro w hSw; have k_ := hRD_.out w hSw; go_simp); with_reducible rfl
 try simp only [sxA, sxB, sxC, Act.put, sxD, sxE, sxF]
 refine tkB (i := 4) (v := ?_) rfl hpan ?yl ?_
 case yl => (intro w hSw; have k_ := hRD_.out w hSw; go_simp); with_reducible rfl
 try simp only [sxA, sxB, sxC, Act.put, sxD, sxE, sxF]
 refine tkB (i := 5) (v := ?_) rfl hpan ?yl ?_
 case yl => (intro w hSw; have k_ := hRD_.out w hSw; go_simp); with_reducible rfl
 try simp only [sxA, sxB, sxC, Act.put, sxD, sxE, sxF]
 refine (hF.out _ _ _ _).1 ?_
 exact N1_3 _ _ W0 _ (by first | rfl | kernel_rfl) (by first | rfl | kernel_rfl) (by (try simp only [sxA, sxB, sxC, Act.put, sxD, sxE, sxF]); first | done | with_reducible rfl | rfl) s0
set_option maxHeartbeats 40000000 in
theorem stW20 {yA yB yC yD yE yG yI yK yL yR yT yV yX yZ zB zD zH zJ zL zM zO zP zR zS zT zU zV zW zX zY zZ uA uB uC uD uE uF uG uH uI uJ uK uL uM uN uO uP uQ uR uS uT uU uV uW uX uY uZ iA iB iC iD iE iF iG iH iI iJ iK iL iM iN iO iP iQ iR iS iT iU iV iW iX iY iZ oA oB oC oD oE oF oG oH oI oJ oK oL oM oN oO oP oQ oR oS oT oU oV oW oX oY oZ qA qB qC qD qE qF qG qH qI qJ qK qL qM qN qO qP qQ qR qS qT qU qV qW qX qY qZ rA rB rC rD rE rF rG rH rI rJ rK rL rM rN rO rP rQ rR rS rT rU rV rW rX rY rZ jA jB jC jD jE jF jG jH jI jJ jK jL jM jN jO jP jQ jR jS jT jU jV jW jX jY jZ nA nB nC nD nE nF nG nH nI nJ nK nL nM nN nO nP nQ nR nS nT nU nV nW nX nY nZ gA gB gC gD gE gF gG gH gI gJ gK gL gM gN gO gP gQ gR gS gT gU gV gW gX gY gZ fA fB fC fD fE fF fG fH fI fJ fK fL fM fN fO fP fQ fR fS fT fU fV fW fX fY fZ dA dB dC dD dE dF dG dH dI dJ dK dL dM dN dO dP dQ dR dS dT dU dV dW dX dY dZ cA cB cC cD cE cF cG cH cI cJ cK : Value}  {w : World}  :
 Code.wp Try.prog (rgn Try.f18 20) (fun e a' w' => e = .normal ∧ ∃ (rT' rU' rV' rW' rX' rY' rZ' jA' jB' jC' jD' jE' jF' jG' jH' jI' jJ' jK' jL' jM' jN' jO' jP' jQ' jR' jS' jT' jU' jV' jW' jX' jY' jZ' nA' nB' nC' nD' nE' nF' nG' nH' nI' nJ' nK' nL' nM' nN' nO' nP' nQ' nR' nS' nT' nU' nV' nW' nX' nY' nZ' gA' gB' gC' gD' gE' gF' gG' gH' gI' gJ' gK' gL' gM' gN' gO' gP' gQ' gR' gS' gT' gU' gV' : Value), a' = { tmps := #[yA,yB,yC,yD,yE,.int .i64 0,yG,.int .i64 2,yI,.int .i64 15,yK,yL,.int .i64 0,.int .i64 0,.int .i64 17,.int .i64 0,.int .i64 17,yR,.int .i64 0,yT,.int .i64 0,yV,.int .i64 17,yX,.int .i64 0,yZ,.int .i64 0,zB,.int .i64 14,zD,.int .i64 0,.int .i64 0,.int .i64 14,zH,.int .i64 0,zJ,.int .i64 5,zL,zM,.int .i64 0,zO,zP,.int .i64 2,zR,zS,zT,zU,zV,zW,zX,zY,zZ,uA,uB,uC,uD,uE,uF,uG,uH,uI,uJ,uK,uL,uM,uN,uO,uP,uQ,uR,uS,uT,uU,uV,uW,uX,uY,uZ,iA,iB,iC,iD,iE,iF,iG,iH,iI,iJ,iK,iL,iM,iN,iO,iP,iQ,iR,iS,iT,iU,iV,iW,iX,iY,iZ,oA,oB,oC,oD,oE,oF,oG,oH,oI,oJ,oK,oL,oM,oN,oO,oP,oQ,oR,oS,oT,oU,oV,oW,oX,oY,oZ,qA,qB,qC,qD,qE,qF,qG,qH,qI,qJ,qK,qL,qM,qN,qO,qP,qQ,qR,qS,qT,qU,qV,qW,qX,qY,qZ,rA,rB,rC,rD,rE,rF,rG,rH,rI,rJ,rK,rL,rM,rN,rO,rP,rQ,rR,rS,rT',rU',rV',rW',rX',rY',rZ',jA',jB',jC',jD',jE',jF',jG',jH',jI',jJ',jK',jL',jM',jN',jO',jP',jQ',jR',jS',jT',jU',jV',jW',jX',jY',jZ',nA',nB',nC',nD',nE',nF',nG',nH',nI',nJ',nK',nL',nM',nN',nO',nP',nQ',nR',nS',nT',nU',nV',nW',nX',nY',nZ',gA',gB',gC',gD',gE',gF',gG',gH',gI',gJ',gK',gL',gM',gN',gO',gP',gQ',gR',gS',gT',gU',gV',.bool false,gX,gY,gZ,fA,fB,fC,fD,fE,fF,fG,fH,fI,fJ,fK,fL,fM,fN,fO,fP,fQ,fR,fS,fT,fU,fV,fW,fX,fY,fZ,dA,dB,dC,dD,dE,dF,dG,dH,dI,dJ,dK,dL,dM,dN,dO,dP,dQ,dR,dS,dT,dU,dV,dW,dX,dY,dZ,cA,cB,cC,cD,cE,cF,cG,cH,cI,cJ,cK], defers := [] } ∧ Ext w w') { tmps := #[yA,yB,yC,yD,yE,.int .i64 0,yG,.int .i64 2,yI,.int .i64 15,yK,yL,.int .i64 0,.int .i64 0,.int .i64 17,.int .i64 0,.int .i64 17,yR,.int .i64 0,yT,.int .i64 0,yV,.int .i64 17,yX,.int .i64 0,yZ,.int .i64 0,zB,.int .i64 14,zD,.int .i64 0,.int .i64 0,.int .i64 14,zH,.int .i64 0,zJ,.int .i64 5,zL,zM,.int .i64 0,zO,zP,.int .i64 2,zR,zS,zT,zU,zV,zW,zX,zY,zZ,uA,uB,uC,uD,uE,uF,uG,uH,uI,uJ,uK,uL,uM,uN,uO,uP,uQ,uR,uS,uT,uU,uV,uW,uX,uY,uZ,iA,iB,iC,iD,iE,iF,iG,iH,iI,iJ,iK,iL,iM,iN,iO,iP,iQ,iR,iS,iT,iU,iV,iW,iX,iY,iZ,oA,oB,oC,oD,oE,oF,oG,oH,oI,oJ,oK,oL,oM,oN,oO,oP,oQ,oR,oS,oT,oU,oV,oW,oX,oY,oZ,qA,qB,qC,qD,qE,qF,qG,qH,qI,qJ,qK,qL,qM,qN,qO,qP,qQ,qR,qS,qT,qU,qV,qW,qX,qY,qZ,rA,rB,rC,rD,rE,rF,rG,rH,rI,rJ,rK,rL,rM,rN,rO,rP,rQ,rR,rS,rT,rU,rV,rW,rX,rY,rZ,jA,jB,jC,jD,jE,jF,jG,jH,jI,jJ,jK,jL,jM,jN,jO,jP,jQ,jR,jS,jT,jU,jV,jW,jX,jY,jZ,nA,nB,nC,nD,nE,nF,nG,nH,nI,nJ,nK,nL,nM,nN,nO,nP,nQ,nR,nS,nT,nU,nV,nW,nX,nY,nZ,gA,gB,gC,gD,gE,gF,gG,gH,gI,gJ,gK,gL,gM,gN,gO,gP,gQ,gR,gS,gT,gU,gV,gW,gX,gY,gZ,fA,fB,fC,fD,fE,fF,fG,fH,fI,fJ,fK,fL,fM,fN,fO,fP,fQ,fR,fS,fT,fU,fV,fW,fX,fY,fZ,dA,dB,dC,dD,dE,dF,dG,dH,dI,dJ,dK,dL,dM,dN,dO,dP,dQ,dR,dS,dT,dU,dV,dW,dX,dY,dZ,cA,cB,cC,cD,cE,cF,cG,cH,cI,cJ,cK], defers := [] } w := by
 conv => arg 2; whnf
 refine st_intro (fun Q2 hQ2 => ?_)
 replace hQ2 := hid hQ2
 go_wp2_with fail
 rw [hQ2.out]
 refine ⟨rfl, _, _, _, _, _, _, _, _, _, _, _, _, _, _, _, _, _, _, _, _, _, _, _, _, _, _, _, _, _, _, _, _, _, _, _, _, _, _, _, _, _, _, _, _, _, _, _, _, _, _, _, _, _, _, _, _, _, _, _, _, _, _, _, _, _, _, _, _, _, _, _, _, _, _, _, _, _, _, _, _, _, rfl, exE⟩
end Go.Proofs.Ytpnfhcnnodolbaa
