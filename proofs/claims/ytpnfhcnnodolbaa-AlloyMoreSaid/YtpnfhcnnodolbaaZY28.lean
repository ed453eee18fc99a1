/- Texts of one proof, laid together: Pr, Ps, Pt, Pu, PuH, Pw, Qb, Qd, Qe. -/
import Derived.Test.YtpnfhcnnodolbaaZY10
import Derived.Test.YtpnfhcnnodolbaaZY23
import Derived.Test.YtpnfhcnnodolbaaZY26
import Derived.Test.YtpnfhcnnodolbaaZY9
import Derived.StillTactics
import Derived.Test.YtpnfhcnnodolbaaZY19
import Derived.Test.YtpnfhcnnodolbaaZY22
import Derived.Test.YtpnfhcnnodolbaaZY18
import Derived.Test.YtpnfhcnnodolbaaZY12
import Derived.Test.YtpnfhcnnodolbaaZY1
set_option linter.unusedVariables false
set_option linter.unusedSimpArgs false
set_option linter.unusedSectionVars false
set_option linter.unnecessarySimpa false
set_option maxRecDepth 100000
namespace Go.Proofs.Ytpnfhcnnodolbaa
open Go Go.RowKit Game
def gt (ys : List (List Int × Int)) (i : Nat) : List Int × Int := ys.getD i ([], 0)
theorem gt_lt {ys : List (List Int × Int)} {i : Nat} (h : i < ys.length) : gt ys i = ys[i] := by simp [gt, h]
def kvs (ys : List (List Int × Int)) (i r : Nat) : Value := .int .i64 (nth (gt ys i).1 r)
theorem ordLt_any (b c : Nat) (L : List (List Int × Int)) (p q : List Int × Int) (hp : p ∈ L) (hq : q ∈ L) (Bx : Nat) (w : World) (hT : TM w b 4 c L) (hB : w.cell? ⟨Bx, 0, none⟩ = some (.map (some b))) :
 Calls Try.prog 110 #[kv p.1, kv q.1, (.pointer (some ⟨Bx, 0, none⟩))] w fun e w' => e = .returned (.bool (decide (p.2 < q.2))) ∧ Ext w w' := by
 have k1 := (hT.ext (show Ext w ((w.alloc (.cells #[.int .i64 (nth p.1 0), .int .i64 (nth p.1 1), .int .i64 (nth p.1 2), .int .i64 (nth p.1 3)] 45)).alloc (.cells #[.int .i64 (nth q.1 0), .int .i64 (nth q.1 1), .int .i64 (nth q.1 2), .int .i64 (nth q.1 3)] 45)).drew from exE))
 have k2 := k1.lookI hq
 replace k1 := k1.lookI hp
 unfold kv at k1 k2 ⊢
 clear hT
 have hB := hB
 have hlt := cell_lt hB
 dsimp only at hlt
 generalize p.2 = pn at *
 generalize q.2 = qn at *
 generalize nth p.1 0 = x0 at *
 generalize nth p.1 1 = x1 at *
 generalize nth p.1 2 = x2 at *
 generalize nth p.1 3 = x3 at *
 generalize nth q.1 0 = y0 at *
 generalize nth q.1 1 = y1 at *
 generalize nth q.1 2 = y2 at *
 generalize nth q.1 3 = y3 at *
 go_enter Try.func110, Try.ntmps110
 go_wp2_with fail
 refine wp_region_still_lit (by kernel_rfl) (by kernel_rfl) ?_
 change wpStill _ _ (World.drew _) _ _ _
 repeat still_step
 refine wpStill_nil ?_
 go_wp2_with fail
 go_ret
 exact ⟨rfl, show Ext w (World.drew _) from exE⟩
structure Bx4 (w : World) (X : Nat) (x : List Int) : Prop where
 c0 : w.cell? ⟨X, 0, none⟩ = some (.int .i64 (nth x 0))
 c1 : w.cell? ⟨X, 1, none⟩ = some (.int .i64 (nth x 1))
 c2 : w.cell? ⟨X, 2, none⟩ = some (.int .i64 (nth x 2))
 c3 : w.cell? ⟨X, 3, none⟩ = some (.int .i64 (nth x 3))
 f0 : w.frozen? ⟨X, 0, none⟩ = false
 f1 : w.frozen? ⟨X, 1, none⟩ = false
 f2 : w.frozen? ⟨X, 2, none⟩ = false
 f3 : w.frozen? ⟨X, 3, none⟩ = false
theorem Bx4.lt {w : World} {X : Nat} {x : List Int} (h : Bx4 w X x) : X < w.heap.size := cell_lt h.c0
theorem Bx4.ext {w w' : World} {X : Nat} {x : List Int} (h : Bx4 w X x) (k : Ext w w') : Bx4 w' X x :=
 ⟨k.cell h.c0, k.cell h.c1, k.cell h.c2, k.cell h.c3, (k.frozen h.lt).trans h.f0, (k.frozen h.lt).trans h.f1, (k.frozen h.lt).trans h.f2, (k.frozen h.lt).trans h.f3⟩
def bstP (ys : List (List Int × Int)) : List Int := (gt ys (bstN (fun i j => decide ((gt ys i).2 < (gt ys j).2)) (ys.length - 1))).1
set_option maxHeartbeats 1000000 in
theorem bestP_any (b c : Nat) (L ys : List (List Int × Int)) (hs : ∀ p ∈ ys, p ∈ L) (h0 : 0 < ys.length) (h9 : ys.length ≤ 1000000) (Bx : Nat) (a : Option Addr) (cap : Nat) (hcap : ys.length ≤ cap) (hcm : cap ≤ 9223372036854775807) (w : World) (hT : TM w b 4 c L) (hB : w.cell? ⟨Bx, 0, none⟩ = some (.map (some b))) (hE : Els w a 4 (kvs ys) ys.length) :
 Calls Try.prog 109 #[.slice a ys.length cap, .func (.func 110) #[] #[(.pointer (some ⟨Bx, 0, none⟩))]] w fun e w' => e = .returned (kv (bstP ys)) ∧ Ext w w' := by
 have hmem : ∀ i, i < ys.length → gt ys i ∈ L := fun i hi => hs _ (by rw [gt_lt hi]; exact List.getElem_mem hi)
 obtain ⟨g, off, rfl, hb, hc⟩ := hE.at h0 (by decide)
 have hc : Hid (∀ i, i < ys.length → ∀ r, r < 4 → w.cell? ⟨g, off + i * 4 + r, none⟩ = some (.int .i64 (nth (gt ys i).1 r))) := hid hc
 have hlt2 : Hid (∀ i j, i < ys.length → j < ys.length → ∀ W, Ext w W → Calls Try.prog 110 #[kv (gt ys i).1, kv (gt ys j).1, (.pointer (some ⟨Bx, 0, none⟩))] W fun e w' => e = .returned (.bool (decide ((gt ys i).2 < (gt ys j).2))) ∧ Ext W w') := hid fun i j hi hj W hW => ordLt_any b c L _ _ (hmem i hi) (hmem j hj) Bx W (hT.ext hW) (hW.cell hB)
 obtain ⟨lt, hlte⟩ : ∃ lt : Nat → Nat → Bool, (fun i j => decide ((gt ys i).2 < (gt ys j).2)) = lt := ⟨_, rfl⟩
 have hlt2 : Hid (∀ i j, i < ys.length → j < ys.length → ∀ W, Ext w W → Calls Try.prog 110 #[kv (gt ys i).1, kv (gt ys j).1, (.pointer (some ⟨Bx, 0, none⟩))] W fun e w' => e = .returned (.bool (lt i j)) ∧ Ext W w') := hid fun i j hi hj W hW => by rw [← hlte]; exact hlt2.out i j hi hj W hW
 unfold bstP
 rw [hlte]
 have hbs : Hid (∀ k, bstN lt (k + 1) = if lt (k + 1) (bstN lt k) = true then k + 1 else bstN lt k) := hid fun k => rfl
 have hbl := hid (fun k => bstN_le lt k)
 have hb0 : Hid (bstN lt 0 = 0) := hid rfl
 obtain ⟨BS, hBS⟩ : ∃ B, bstN lt = B := ⟨_, rfl⟩
 rw [hBS] at hbs hbl hb0 ⊢
 obtain ⟨n, hn⟩ : ∃ n, ys.length = n := ⟨_, rfl⟩
 rw [hn] at hc hlt2 h0 h9 hcap
 rw [hn]
 have e0 := hc.out 0 h0 0 (by decide)
 have e1 := hc.out 0 h0 1 (by decide)
 have e2 := hc.out 0 h0 2 (by decide)
 have e3 := hc.out 0 h0 3 (by decide)
 have hk0 : Hid (kv (gt ys 0).1 = .agg #[.int .i64 (nth (gt ys 0).1 0), .int .i64 (nth (gt ys 0).1 1), .int .i64 (nth (gt ys 0).1 2), .int .i64 (nth (gt ys 0).1 3)]) := hid rfl
 simp only [Nat.zero_mul, Nat.add_zero] at e0 e1 e2 e3
 clear hs hB hT hE hmem hlte hBS hn
 by_cases hc1 : cap = 1
 ·have hn1 : n = 1 := by omega
  subst hn1
  subst hc1
  go_enter Try.func109, Try.ntmps109
  go_wp2_with fail
  go_loopw [14] (fun i wr => i = .int .i64 0 ∧ Bx4 wr (w.heap.size + 1) (gt ys 0).1 ∧ Hid (Ext w wr) ∧ Bx4 wr w.heap.size []) (fun _ _ => 0)
  case atStart => exact ⟨rfl, ⟨by simp [go_sem], by simp [go_sem], by simp [go_sem], by simp [go_sem], by simp [go_sem], by simp [go_sem], by simp [go_sem], by simp [go_sem]⟩, hid exE, ⟨by simp [go_sem, nth], by simp [go_sem, nth], by simp [go_sem, nth], by simp [go_sem, nth], by simp [go_sem], by simp [go_sem], by simp [go_sem], by simp [go_sem]⟩⟩
  case round =>
   obtain ⟨rfl, ⟨b0, b1, b2, b3, _, _, _, _⟩, hw, ⟨z0, z1, z2, z3, f0, f1, f2, f3⟩⟩ := hrel
   have hz := cell_lt z0
   dsimp only at hz
   go_wp2_with fail
   have hx := hw.out
   refine bodyPost_ret (v := .agg #[.int .i64 (nth (gt ys 0).1 0), .int .i64 (nth (gt ys 0).1 1), .int .i64 (nth (gt ys 0).1 2), .int .i64 (nth (gt ys 0).1 3)]) (by simp [results, Try.results109, go_sem, *]) rfl ⟨?_, exE⟩
   rw [show BS (1 - 1) = 0 from hb0.out]; rfl
 ·go_enter Try.func109, Try.ntmps109
  go_wp2_with fail
  go_loopw [14] (fun i wr => ∃ k : Nat, k + 1 ≤ n ∧ i = .int .i64 k ∧ Bx4 wr (w.heap.size + 1) (gt ys (BS k)).1 ∧ Hid (Ext w wr) ∧ Bx4 wr w.heap.size []) (fun i _ => (n - intOf i).toNat)
  case atStart => exact ⟨0, by omega, rfl, by rw [hb0.out]; exact ⟨by simp [go_sem], by simp [go_sem], by simp [go_sem], by simp [go_sem], by simp [go_sem], by simp [go_sem], by simp [go_sem], by simp [go_sem]⟩, hid exE, ⟨by simp [go_sem, nth], by simp [go_sem, nth], by simp [go_sem, nth], by simp [go_sem, nth], by simp [go_sem], by simp [go_sem], by simp [go_sem], by simp [go_sem]⟩⟩
  case round =>
   obtain ⟨k, hk, rfl, hB5, hw, hB4⟩ := hrel
   obtain ⟨b0, b1, b2, b3, g0, g1, g2, g3⟩ := hB5
   have hl5 := cell_lt b0
   have hz := hB4.lt
   dsimp only at hl5
   replace hB4 := hid hB4
   by_cases hlt : k < n - 1
   ·have q0 := hw.out.cell (hc.out (k + 1) (by omega) 0 (by decide))
    have q1 := hw.out.cell (hc.out (k + 1) (by omega) 1 (by decide))
    have q2 := hw.out.cell (hc.out (k + 1) (by omega) 2 (by decide))
    have q3 := hw.out.cell (hc.out (k + 1) (by omega) 3 (by decide))
    rw [show off + (k + 1) * 4 + 0 = off + 4 + k * 4 by omega] at q0
    rw [show off + (k + 1) * 4 + 1 = off + 4 + k * 4 + 1 by omega] at q1
    rw [show off + (k + 1) * 4 + 2 = off + 4 + k * 4 + 2 by omega] at q2
    rw [show off + (k + 1) * 4 + 3 = off + 4 + k * 4 + 3 by omega] at q3
    have hs := hid (hbs.out k)
    have hbk := hbl.out k
    have hcal := hid (fun W hW => hlt2.out (k + 1) (BS k) (by omega) (by omega) W (hw.out.trans hW))
    obtain ⟨bb, hbb⟩ : ∃ z, BS k = z := ⟨_, rfl⟩
    rw [hbb] at hs hcal b0 b1 b2 b3
    have hkI : (k : Int) < (n : Int) - 1 := by omega
    have tk := Go.IntWalk.i64_in ((k : Int) + 1) (by omega)
    clear hbb
    unfold kv at hcal
    have hB5 : Hid (Bx4 wr (w.heap.size + 1) (gt ys bb).1) := hid ⟨b0, b1, b2, b3, g0, g1, g2, g3⟩
    cases hg : lt (k + 1) bb with
    | true =>
     rw [hg, if_pos rfl] at hs
     rw [hg] at hcal
     go_wp2_with fail
     refine (hcal.out _ exE).mono ?_; rintro e w2 ⟨rfl, hE⟩
     have x2 : Ext wr w2 := exE
     have q0 := hE.cell (p := ⟨wr.heap.size, 0, none⟩) (v := .int .i64 (nth (gt ys (k + 1)).1 0)) (by simp [go_sem])
     have q1 := hE.cell (p := ⟨wr.heap.size, 1, none⟩) (v := .int .i64 (nth (gt ys (k + 1)).1 1)) (by simp [go_sem])
     have q2 := hE.cell (p := ⟨wr.heap.size, 2, none⟩) (v := .int .i64 (nth (gt ys (k + 1)).1 2)) (by simp [go_sem])
     have q3 := hE.cell (p := ⟨wr.heap.size, 3, none⟩) (v := .int .i64 (nth (gt ys (k + 1)).1 3)) (by simp [go_sem])
     obtain ⟨b0, b1, b2, b3, g0, g1, g2, g3⟩ := hB5.out.ext x2
     have hl6 := cell_lt b0
     dsimp only at hl6
     have hw2 := hid (hw.out.trans x2)
     have hB4 := hid (hB4.out.ext x2)
     clear hE x2
     go_wp2_with fail
     go_roundw
     case rel =>
      refine ⟨k + 1, by omega, by go_num, ?_, hid (by have := hw2.out; exact exE), ?_⟩
      ·rw [hs.out]; exact ⟨by simp [go_sem, *], by simp [go_sem, *], by simp [go_sem, *], by simp [go_sem, *], by simp [go_sem, *], by simp [go_sem, *], by simp [go_sem, *], by simp [go_sem, *]⟩
      ·obtain ⟨z0, z1, z2, z3, f0, f1, f2, f3⟩ := hB4.out
       exact ⟨by simp [go_sem, *], by simp [go_sem, *], by simp [go_sem, *], by simp [go_sem, *], by simp [go_sem, *], by simp [go_sem, *], by simp [go_sem, *], by simp [go_sem, *]⟩
     case measure => simp [intOf]; omega
    | false =>
     rw [hg, if_neg (by decide)] at hs
     rw [hg] at hcal
     go_wp2_with fail
     refine (hcal.out _ exE).mono ?_; rintro e w2 ⟨rfl, hE⟩
     have x2 : Ext wr w2 := exE
     have hB5 := hid (hB5.out.ext x2)
     have hB4 := hid (hB4.out.ext x2)
     have hw2 := hid (hw.out.trans x2)
     clear hE x2
     go_wp2_with fail
     go_roundw
     case rel => exact ⟨k + 1, by omega, by go_num, by rw [hs.out]; exact hB5.out, hw2, hB4.out⟩
     case measure => simp [intOf]; omega
   ·have hr := hid (show k = n - 1 by omega)
    have hx := hw.out
    obtain ⟨z0, z1, z2, z3, f0, f1, f2, f3⟩ := hB4.out
    go_wp2_with fail
    refine bodyPost_ret (v := .agg #[.int .i64 (nth (gt ys (BS k)).1 0), .int .i64 (nth (gt ys (BS k)).1 1), .int .i64 (nth (gt ys (BS k)).1 2), .int .i64 (nth (gt ys (BS k)).1 3)]) (by simp [results, Try.results109, go_sem, *]) rfl ⟨?_, exE⟩
    rw [← hr.out]; rfl
attribute [local go_sem] Oper.semAt_some
structure Asc (M : List (List Int × Int)) : Prop where
 lt : M.Pairwise fun p q => p.2 < q.2
 pos : ∀ p ∈ M, 0 ≤ p.2
def lst (M : List (List Int × Int)) (i : Nat) : Int := if i = 0 then -1 else (gt M (i - 1)).2
theorem Asc.at {M : List (List Int × Int)} (h : Asc M) {i j : Nat} (hij : i < j) (hj : j < M.length) : (gt M i).2 < (gt M j).2 := by
 rw [gt_lt hj, gt_lt (by omega)]
 exact (List.pairwise_iff_getElem.1 h.lt) i j (by omega) hj hij
theorem flt_drop {M : List (List Int × Int)} (h : Asc M) {i : Nat} (hi : i ≤ M.length) : (M.filter fun p => decide (lst M i < p.2)) = M.drop i := by
 rw [show M.filter (fun p => decide (lst M i < p.2)) = (M.take i ++ M.drop i).filter (fun p => decide (lst M i < p.2)) by rw [List.take_append_drop], List.filter_append]
 have e1 : (M.take i).filter (fun p => decide (lst M i < p.2)) = [] := by
  refine List.filter_eq_nil_iff.2 fun p hp => ?_
  obtain ⟨j, hj, rfl⟩ := List.getElem_of_mem hp
  rw [List.length_take] at hj
  rw [List.getElem_take]
  have hl : j < M.length := by omega
  unfold lst
  rw [if_neg (by omega)]
  have : (gt M j).2 ≤ (gt M (i - 1)).2 := by
   by_cases e : j = i - 1
   ·rw [e]; exact Int.le_refl _
   ·exact Int.le_of_lt (h.at (by omega) (by omega))
  rw [gt_lt hl] at this
  simp only [decide_eq_true_eq]
  omega
 have e2 : (M.drop i).filter (fun p => decide (lst M i < p.2)) = M.drop i := by
  refine List.filter_eq_self.2 fun p hp => ?_
  obtain ⟨j, hj, rfl⟩ := List.getElem_of_mem hp
  rw [List.length_drop] at hj
  rw [List.getElem_drop]
  have hl : i + j < M.length := by omega
  unfold lst
  split
  ·have := h.pos _ (List.getElem_mem hl)
   simp only [decide_eq_true_eq]
   omega
  ·have := h.at (i := i - 1) (j := i + j) (by omega) hl
   rw [gt_lt hl] at this
   simpa using this
 rw [e1, e2, List.nil_append]
theorem bstN_min (f : Nat → Int) : ∀ k, ∀ j, j ≤ k → f (bstN (fun i j => decide (f i < f j)) k) ≤ f j
 | 0, j, hj => by rw [show j = 0 by omega]; exact Int.le_refl _
 | k + 1, j, hj => by
  have ih := bstN_min f k
  simp only [bstN]
  generalize bstN (fun i j => decide (f i < f j)) k = m at *
  by_cases g : f (k + 1) < f m
  ·rw [if_pos (by simpa using g)]
   by_cases e : j = k + 1
   ·rw [e]; exact Int.le_refl _
   ·have := ih j (by omega); omega
  ·rw [if_neg (by simpa using g)]
   by_cases e : j = k + 1
   ·rw [e]; omega
   ·exact ih j (by omega)
theorem bstP_eq {M ys : List (List Int × Int)} (h : Asc M) {i : Nat} (hi : i < M.length) (hp : ys.Perm (M.drop i)) : bstP ys = (gt M i).1 := by
 have hlen : ys.length = M.length - i := by rw [hp.length_eq, List.length_drop]
 unfold bstP
 have hle := bstN_le (fun i j => decide ((gt ys i).2 < (gt ys j).2)) (ys.length - 1)
 have hmin := bstN_min (fun i => (gt ys i).2) (ys.length - 1)
 generalize bstN (fun i j => decide ((gt ys i).2 < (gt ys j).2)) (ys.length - 1) = m at *
 have hm : m < ys.length := by omega
 have m1 : gt ys m ∈ M.drop i := hp.mem_iff.1 (by rw [gt_lt hm]; exact List.getElem_mem hm)
 have m2 : gt M i ∈ ys := hp.mem_iff.2 (by rw [gt_lt hi]; exact List.mem_drop_iff_getElem.2 ⟨0, by simpa using hi, by simp⟩)
 obtain ⟨q, hq, e⟩ := List.getElem_of_mem m2
 have h1 := hmin q (by omega)
 rw [gt_lt hq, e] at h1
 obtain ⟨j, hj, e2⟩ := List.getElem_of_mem m1
 rw [List.length_drop] at hj
 rw [List.getElem_drop] at e2
 rw [← e2] at h1 ⊢
 rcases Nat.eq_zero_or_pos j with e0 | e0
 ·subst e0
  rw [gt_lt hi]
  rfl
 ·have := h.at (i := i) (j := i + j) (by omega) (by omega)
  rw [gt_lt (show i + j < M.length by omega)] at this
  omega
theorem elemPr : ElemG Try.prog 45 4 32 := elemG_mk (by kernel_rfl)
theorem KN.grownBy {B r : Nat} {A C : World} (g : A.grownBy C (some r)) (hb : B ≤ r) (hc : ∀ o, A.heap[r]? = some o → o.isCells = false) : KN B A C :=
 ⟨g.os, g.tape, g.output, g.size, fun k o hk ho => by
  have hne : k ≠ r := fun e => by
   subst e
   rcases ho with h | h
   ·omega
   ·rw [hc o hk] at h; cases h
  exact (g.block k (lt_of_heap hk) (fun e => hne (Option.some.inj e))).trans hk⟩
theorem ordered_any (b : Option Nat) (w : World) :
 Calls Try.prog 101 #[.map b] w fun e w' => e = .returned (.func (.func 108) #[] #[(.pointer (some ⟨w.heap.size, 0, none⟩))]) ∧ w' = w.alloc (.cells #[.map b] 133) := by
 go_enter Try.func101, Try.ntmps101
 go_wp2_with fail
 go_ret
 exact ⟨rfl, rfl⟩
theorem kvs_left (ys : List (List Int × Int)) (p : List Int × Int) {i : Nat} (h : i < ys.length) (r : Nat) : kvs (ys ++ [p]) i r = kvs ys i r := by
 unfold kvs
 rw [gt_lt h, gt_lt (by simp; omega), List.getElem_append_left h]
theorem kvs_last (ys : List (List Int × Int)) (x : List Int) (z : Int) {i : Nat} (h : i < 1) (r : Nat) : kvs (ys ++ [(x, z)]) (ys.length + i) r = .int .i64 (nth x r) := by
 have e : i = 0 := by omega
 subst e
 unfold kvs
 rw [gt_lt (by simp)]
 simp
theorem el4 {w : World} {b : Nat} {x : List Int} (h0 : w.cell? ⟨b, 0, none⟩ = some (.int .i64 (nth x 0))) (h1 : w.cell? ⟨b, 1, none⟩ = some (.int .i64 (nth x 1))) (h2 : w.cell? ⟨b, 2, none⟩ = some (.int .i64 (nth x 2))) (h3 : w.cell? ⟨b, 3, none⟩ = some (.int .i64 (nth x 3))) :
 ∀ i, i < 1 → ∀ r, r < 4 → w.cell? ⟨b, 0 + i * 4 + r, none⟩ = some (.int .i64 (nth x r)) := by
 intro i hi r hr
 have e : i = 0 := by omega
 subst e
 match r, hr with
 | 0, _ => simpa using h0
 | 1, _ => simpa using h1
 | 2, _ => simpa using h2
 | 3, _ => simpa using h3
theorem RT.left {w w' : World} {b r n c : Nat} {l todo : List (List Int × Int)} (h : RT w b r n c l todo) (x : Ext w w') : w'.rangeLeft b r = w.rangeLeft b r := by
 obtain ⟨_, _, _, D, left, cnt, o1, _⟩ := h
 rw [o1.left_eq, (o1.kept x.grows (by simp) (by simp)).left_eq]
theorem RT.app {w w' : World} {b r n c : Nat} {l todo : List (List Int × Int)} (h : RT w b r n c l todo) {base : Nat} {e : TypeId} {k : Nat} {v : Value} {f : Nat → Nat → Value} {m : Nat} (ho : OwnG w base e k v f m) (g : w.grownBy w' v.ownBlock) :
 RT w' b r n c l todo ∧ w'.rangeLeft b r = w.rangeLeft b r := by
 have h1 : some b ≠ v.ownBlock := fun e => by
  obtain ⟨o, q1, q2⟩ := h.tm.isMap
  rw [ho.isC e.symm o q1] at q2; cases q2
 have h2 : some r ≠ v.ownBlock := fun e => by
  obtain ⟨o, q1, q2⟩ := h.iter
  rw [ho.isC e.symm o q1] at q2; cases q2
 refine ⟨h.kept g h1 h2, ?_⟩
 obtain ⟨_, _, _, D, left, cnt, o1, _⟩ := h
 rw [o1.left_eq, (o1.kept g h1 h2).left_eq]
theorem RT.same2 {w w' : World} {b r n c : Nat} {l todo : List (List Int × Int)} (h : RT w b r n c l todo) (h1 : w'.heap[b]? = w.heap[b]?) (h2 : w'.heap[r]? = w.heap[r]?) : RT w' b r n c l todo ∧ w'.rangeLeft b r = w.rangeLeft b r := by
 obtain ⟨k, s, nd, D, left, cnt, o1, d, e1, e2⟩ := h
 have o2 : w'.ranges Try.prog 45 (plainElem Try.prog 3) b r c D left cnt := by
  obtain ⟨es, clock, since, seen, c0, hb, F, hs, hD, hr, rest⟩ := o1
  exact ⟨es, clock, since, seen, c0, by rw [h1]; exact hb, F, hs, hD, by rw [h2]; exact hr, rest⟩
 exact ⟨⟨k, s, nd, D, left, cnt, o2, d, e1, e2⟩, by rw [o2.left_eq, o1.left_eq]⟩
theorem take_map (M : List (List Int × Int)) {j : Nat} (h : j < M.length) : (M.take j).map Prod.fst ++ [(gt M j).1] = (M.take (j + 1)).map Prod.fst := by
 rw [List.take_succ_eq_append_getElem h, List.map_append, gt_lt h]; rfl
def encP (x : List Int) : Array Value := #[kv x]
def GO (M : List (List Int × Int)) (pre : List (List Int)) (Z : Nat → Prop) (x : List Int) (W : World) : Prop := pre ++ [x] <+: M.map Prod.fst
structure OF (b Bx : Nat) (mo : Obj) (W : World) : Prop where
 m : W.heap[b]? = some mo
 c : W.cell? ⟨Bx, 0, none⟩ = some (.map (some b))
set_option maxHeartbeats 1000000 in
theorem ordered1_yields (b c Bx : Nat) (mo : Obj) (k M : List (List Int × Int)) (hkM : k.Perm M) (hM : Asc M) (h9 : M.length ≤ 100000) (hTm : ∀ W : World, W.heap[b]? = some mo → TM W b 4 c k) (nn : Nat) :
 YieldsZ Fence.wide nn Try.prog 108 #[(.pointer (some ⟨Bx, 0, none⟩))] encP (GO M) (fun xs => xs = M.map Prod.fst) (fun pre => pre <+: M.map Prod.fst) (OF b Bx mo) := by
 intro l0 J Jx W hJ hJx hN hZ hY h0
 have HJ := hid hJ
 have HN := hid hN
 have HY := hid hY
 have HM := hid hM
 have HT := hid hTm
 have HP := hid hkM
 have O0 := hN _ _ _ h0
 have H0 := hid h0
 have c0 := O0.c
 have hT0 := hid (hTm _ O0.m)
 have hb0 := hT0.out.lt
 have hl0 := cell_lt c0
 dsimp only at hl0
 clear hJ hJx hN hZ hY h0 hM hTm hkM O0
 refine callsIn_of_wp Try.func108 rfl trivial ?_ rfl
 simp only [Try.ntmps108, List.size_toArray, List.length_cons, List.length_nil, Nat.reduceAdd, Nat.reduceSub, Array.replicate_succ, Array.replicate_zero, List.push_toArray, List.append_toArray, List.nil_append, List.cons_append]
 gi_wp2_with (first | (gi_at_range; refine rangeT_in rfl _ rfl rfl hT0.out ?_; intro w1 hR1 hg1 hs1))
 have hR1 := hid hR1
 have kn1 : KN W.heap.size W w1 := .of_ext (Ext.grown (Ext.refl W) hg1 (fun _ e => by cases e))
 have hj1 := hid (HJ.out _ _ _ _ H0.out kn1)
 have hp0 : Hid ([] = (M.take 0).map Prod.fst) := hid rfl
 go_frame
 gi_loopw [3] (fun i wr => ∃ (j : Nat) (td : List (List Int × Int)) (pre : List (List Int)) (Z : Nat → Prop), j + td.length = M.length ∧ Hid (pre = (M.take j).map Prod.fst) ∧ i = .int .i64 (lst M j) ∧ Hid (RT wr b W.heap.size 4 c k td) ∧ Hid (J pre Z wr) ∧ W.heap.size ≤ wr.heap.size) (fun i wr => wr.rangeLeft b W.heap.size)
 case atStart => exact ⟨0, k, [], _, by rw [HP.out.length_eq]; omega, hp0, rfl, hR1, hj1, kn1.size⟩
 case round =>
  obtain ⟨j, td, pre, Z, hjt, hpr, rfl, hR, hJ, hsz⟩ := hrel
  have of := HN.out _ _ _ hJ.out
  have c0 := of.c
  have hlb := cell_lt c0
  dsimp only at hlb
  gi_wp2_with (first | (gi_at_next; refine nextT_in rfl _ rfl rfl hR.out ?_ ?_))
  ·intro htd
   have htd := htd.out
   subst htd
   gi_wp2
   refine bodyPost_end (results_none rfl _ _ _) rfl ?_
   exact ⟨⟨_, rfl⟩, .inl ⟨⟨Z, by have := hJ.out; rwa [hpr.out, List.take_of_length_le (by simpa using Nat.le_of_eq hjt.symm)] at this⟩, hsz⟩⟩
  ·intro y z td2 w2 hcm
   have kn2 : KN W.heap.size wr w2 := KN.grownBy hcm.grown (Nat.le_refl _) (fun o ho => by
    obtain ⟨o', h1, h2⟩ := hR.out.iter
    rw [ho] at h1; cases h1; exact h2)
   have hj2 := hid (HJ.out _ _ _ _ hJ.out kn2)
   have c0 := (HN.out _ _ _ hj2.out).c
   have hR2 := hid hcm.rt
   have hle2 := hid hcm.less
   have hs2 := hid hcm.size
   have htl := hcm.perm.length_eq
   rw [List.length_cons] at htl
   have hjl : j < M.length := by omega
   have hz2 : W.heap.size ≤ w2.heap.size := by rw [hcm.size]; exact hsz
   have hlb2 := cell_lt c0
   dsimp only at hlb2
   unfold kv
   clear hcm kn2
   have hz2 := hid hz2
   have hsz := hid hsz
   have hTM2 := hid hR2.out.tm
   gi_wp2_with (first | (gi_at_range; refine rangeT_in rfl _ rfl rfl hTM2.out ?_; intro w3 hR3 hg3 hs3))
   go_frame
   have x23 : Ext w2 w3 := Ext.grown (Ext.refl w2) hg3 (fun _ e => by cases e)
   have hR3 := hid hR3
   have x23 := hid x23
   have hk0 : Hid (([] ++ k).Perm k) := hid (List.Perm.refl _)
   refine wpIn_wide.2 ?_
   go_loopw [4] (fun s wv => ∃ dn td' : List (List Int × Int), Hid ((dn ++ td').Perm k) ∧ Hid (RT wv b w2.heap.size 4 c k td') ∧ Hid (OwnG wv w2.heap.size 45 4 s (kvs (dn.filter fun p => decide (lst M j < p.2))) (dn.filter fun p => decide (lst M j < p.2)).length) ∧ Hid (Ext w2 wv)) (fun _ wv => wv.rangeLeft b w2.heap.size)
   case atStart => exact ⟨[], k, hk0, hR3, hid (OwnG.nil _ _ _ _ _), x23⟩
   case round =>
    obtain ⟨dn, td', hpm, hRv, hov, hxv⟩ := hrel
    go_wp2_with (at_next; refine nextT rfl _ rfl rfl hRv.out ?_ ?_)
    ·intro htd
     have htd := htd.out
     subst htd
     have hdk : dn.Perm M := (List.append_nil dn ▸ hpm.out).trans HP.out
     have hys : (dn.filter fun p => decide (lst M j < p.2)).Perm (M.drop j) := by
      rw [← flt_drop HM.out (Nat.le_of_lt hjl)]
      exact hdk.filter _
     have hsub : ∀ p ∈ (dn.filter fun p => decide (lst M j < p.2)), p ∈ k := fun p hp => HP.out.mem_iff.2 (hdk.mem_iff.1 (List.mem_filter.1 hp).1)
     obtain ⟨ys, hyse⟩ : ∃ ys, (dn.filter fun p => decide (lst M j < p.2)) = ys := ⟨_, rfl⟩
     rw [hyse] at hov hys hsub
     have hyl : ys.length = M.length - j := by rw [hys.length_eq, List.length_drop]
     have hbe := hid (bstP_eq HM.out hjl hys)
     have hmk := hid (HP.out.mem_iff.2 (by rw [gt_lt hjl]; exact List.getElem_mem hjl) : gt M j ∈ k)
     obtain ⟨a4, cp4, rfl, hc4, hels⟩ := hov.out.els
     have hcm := hov.out.capM
     have hTv := hRv.out.tm
     have c0v := hxv.out.cell c0
     have hbst := hid (fun W (x : Ext wr W) => bestP_any b c k ys hsub (by omega) (by omega) Bx a4 cp4 hc4 hcm W (hTv.ext x) (x.cell c0v) (hels.ext x))
     have hkt := hid (fun W (x : Ext wr W) => (hTv.ext x).lookI hmk.out)
     have hjv := hid (HJ.out.ext hj2.out hxv.out)
     have hRo := hid (hR2.out.ext hxv.out)
     have hlo := hid (hR2.out.left hxv.out)
     have hsv := hid (Nat.le_trans hz2.out hxv.out.size)
     have hlv := cell_lt c0v
     dsimp only at hlv
     rw [hyl] at hbst
     rw [hyl]
     have hpr1 : Hid (pre ++ [(gt M j).1] = (M.take (j + 1)).map Prod.fst) := hid (by rw [hpr.out]; exact take_map M hjl)
     have hpr2 : Hid (pre ++ [(gt M j).1] <+: M.map Prod.fst) := hid (by rw [hpr1.out, List.map_take]; exact List.take_prefix _ _)
     have hls1 : Hid (lst M (j + 1) = (gt M j).2) := hid rfl
     clear hTv hels hyse hys hsub hcm hRv hov hpm hdk hyl
     go_wp2_with fail
     gi_wp2_with fail
     refine ⟨trivial, fun h => (by cases h), (callsIn_wide.2 (hbst.out _ exE)).mono ?_⟩; rintro e w5 ⟨rfl, hE5⟩
     rw [hbe.out]
     have x5 : Ext wr w5 := exE
     have k1 := hkt.out (w5.alloc (.cells #[.int .i64 (nth (gt M j).1 0), .int .i64 (nth (gt M j).1 1), .int .i64 (nth (gt M j).1 2), .int .i64 (nth (gt M j).1 3)] 45)) exE
     have x6 : Ext wr (w5.alloc (.cells #[.int .i64 (nth (gt M j).1 0), .int .i64 (nth (gt M j).1 1), .int .i64 (nth (gt M j).1 2), .int .i64 (nth (gt M j).1 3)] 45)) := exE
     have hj6 := hid (HJ.out.ext hjv.out x6)
     obtain ⟨fn, tmps, assign, body, hyl, hRr⟩ := HY.out pre Z (gt M j).1 (w5.alloc (.cells #[.int .i64 (nth (gt M j).1 0), .int .i64 (nth (gt M j).1 1), .int .i64 (nth (gt M j).1 2), .int .i64 (nth (gt M j).1 3)] 45)) hpr2.out hj6.out (Nat.le_trans hsv.out x6.size)
     simp only [encP] at hyl
     unfold kv at k1 hyl ⊢
     have c05 := hE5.cell c0v
     have hl5 := cell_lt c05
     dsimp only at hl5
     have hR6 := hid (hRo.out.ext x6)
     have hl6 := hid (hRo.out.left x6)
     have of6 := hid (HN.out _ _ _ hj6.out)
     clear x5 x6 hE5 hkt hbst hmk hjv
     gi_wp2_with fail
     obtain ⟨W6, hW6⟩ : ∃ W6, w5.alloc (.cells #[.int .i64 (nth (gt M j).1 0), .int .i64 (nth (gt M j).1 1), .int .i64 (nth (gt M j).1 2), .int .i64 (nth (gt M j).1 3)] 45) = W6 := ⟨_, rfl⟩
     rw [hW6] at hR6 hl6 of6 hRr hj6 ⊢
     refine ⟨fun h => (by cases h), hRr.mono ?_⟩
     rintro e W3 (⟨rfl, Z3, hJ3, hK3⟩ | ⟨rfl, hJx3, hK3⟩)
     ·have hi3 := hid hJ3
      have hm3 := (HN.out _ _ _ hJ3).m
      have hR7 := hid (hR6.out.same2 (by rw [hm3, of6.out.m]) (by
       obtain ⟨o, h1, h2⟩ := hR6.out.iter
       rw [h1, hK3.same _ o (Nat.le_refl _) (.inr h2) h1]))
      have hz3 := hid (show W.heap.size ≤ W3.heap.size from Nat.le_trans (Nat.le_of_lt hR6.out.lt) hK3.size)
      clear hyl hRr hJ3 hK3 hm3
      gi_wp2
      go_roundw
      case rel => exact ⟨j + 1, td2, pre ++ [(gt M j).1], Z3, by omega, hpr1, by rw [hls1.out], hid hR7.out.1, hi3, hz3.out⟩
      case measure => rw [hR7.out.2, hl6.out, hlo.out]; exact hle2.out
     ·gi_wp2
      refine bodyPost_ret (results_none rfl _ _ _) rfl ?_
      exact ⟨⟨_, rfl⟩, .inr ⟨_, hpr2.out, hJx3⟩⟩
    ·intro y' z' td3 w4 hcm
     have hen := hcm.run
     unfold kv
     unfold kv at hen
     have x4 := hid (Ext.grown hxv.out hcm.grown (fun q e => by cases e; exact Nat.le_refl _))
     have hit := hRv.out.iter
     have ho4 := hid (hov.out.grown hcm.grown (fun q hq e => by
      cases e
      obtain ⟨o', h1, h2⟩ := hit
      rw [hov.out.isC hq o' h1] at h2; cases h2))
     have hpm2 : Hid ((dn ++ [(y', z')] ++ td3).Perm k) := by
      refine hid (List.Perm.trans ?_ hpm.out)
      rw [List.append_assoc]
      exact hcm.perm.symm.append_left dn
     have hR4 := hid hcm.rt
     have hls := hid hcm.less
     have hlk : dn.length + 1 ≤ k.length := by have := hpm2.out.length_eq; simp at this; omega
     have hl9 : (dn.filter fun p => decide (lst M j < p.2)).length ≤ dn.length := List.length_filter_le _ _
     have hk9 : k.length ≤ 100000 := by rw [HP.out.length_eq]; exact h9
     have hsz4 : w2.heap.size ≤ w4.heap.size := x4.out.size
     clear hcm hit
     by_cases hg : lst M j < z'
     ·have hflt : Hid ((dn ++ [(y', z')]).filter (fun p => decide (lst M j < p.2)) = (dn.filter fun p => decide (lst M j < p.2)) ++ [(y', z')]) := hid (by rw [List.filter_append, List.filter_cons_of_pos (by simpa using hg), List.filter_nil])
      obtain ⟨ys, hys⟩ : ∃ ys, (dn.filter fun p => decide (lst M j < p.2)) = ys := ⟨_, rfl⟩
      rw [hys] at hflt ho4 hl9
      replace hys := hid hys
      go_wp2_with (at_builtin; go_loud (refine wpList_plain rfl (fun K hK => ?_); refine appG_wp _ _ _ rfl 45 4 32 Try.underlying146 elemPr (by decide) w2.heap.size (kvs ys) ys.length _ rfl _ 0 1 1 (fun _ r => .int .i64 (nth y' r)) rfl (ho4.out.ext exE) (el4 (by simp [go_sem]) (by simp [go_sem]) (by simp [go_sem]) (by simp [go_sem])) (by decide) (fun _ _ _ _ => rfl) (by omega) (by decide) (by simp; omega) (kvs (ys ++ [(y', z')])) (fun i r hi _ => kvs_left _ _ hi r) (fun i r hi _ => kvs_last _ _ _ hi r) ?_; intro b9 cp9 w9 own9 g9 at9 hb9 ext9; refine hK _ _ ?_))
      go_roundw
      case rel =>
       exact ⟨dn ++ [(y', z')], td3, hpm2, hid ((hR4.out.ext exE).app (ho4.out.ext exE) g9).1, by rw [hflt.out, show (ys ++ [(y', z')]).length = ys.length + 1 by simp]; exact hid own9, hid (ext9 _ (by have := x4.out; exact exE) (Nat.le_refl _))⟩
      case measure =>
       rw [((hR4.out.ext exE).app (ho4.out.ext exE) g9).2, hR4.out.left exE]; exact hls.out
     ·have hflt : Hid ((dn ++ [(y', z')]).filter (fun p => decide (lst M j < p.2)) = (dn.filter fun p => decide (lst M j < p.2))) := hid (by rw [List.filter_append, List.filter_cons_of_neg (by simpa using hg), List.filter_nil, List.append_nil])
      go_wp2_with fail
      go_roundw
      case rel => exact ⟨dn ++ [(y', z')], td3, hpm2, hid (hR4.out.ext exE), by rw [hflt.out]; exact hid (ho4.out.ext exE), hid (x4.out.trans exE)⟩
      case measure =>
       rw [hR4.out.left exE]; exact hls.out
end Go.Proofs.Ytpnfhcnnodolbaa
namespace Go.Proofs.Ytpnfhcnnodolbaa
open Go Go.RowKit Game
def rwN (l : List Met) (s : Bool) (i r : Nat) : Int := if i < l.length then rwM (mtl l i) s r else if i = l.length then (if r = 1 then 1 else 0) else (if r = 2 then 1 else 0)
def rwX (l : List Met) (s : Bool) (i r : Nat) : Value := .int .i64 (rwN l s i r)
def prX (l : List Met) (i r : Nat) : Value := .int .i64 (mtl l i).p
def twoV (i r : Nat) : Value := .int .i64 (if i = 0 then (if r = 1 then 1 else 0) else (if r = 2 then 1 else 0))
theorem elemI1 : ElemG Try.prog 2 1 8 := elemG_mk (by kernel_rfl)
theorem twoV_at {w : World} {b : Nat} (h0 : w.cell? ⟨b, 0, none⟩ = some (.int .i64 0)) (h1 : w.cell? ⟨b, 1, none⟩ = some (.int .i64 1)) (h2 : w.cell? ⟨b, 2, none⟩ = some (.int .i64 0))
 (h3 : w.cell? ⟨b, 3, none⟩ = some (.int .i64 0)) (h4 : w.cell? ⟨b, 4, none⟩ = some (.int .i64 0)) (h5 : w.cell? ⟨b, 5, none⟩ = some (.int .i64 1)) :
 ∀ i, i < 2 → ∀ r, r < 3 → w.cell? ⟨b, 0 + i * 3 + r, none⟩ = some (twoV i r) := by
 intro i hi r hr
 rcases i with _ | _ | i
 ·rcases r with _ | _ | _ | r
  ·exact h0
  ·exact h1
  ·exact h2
  ·omega
 ·rcases r with _ | _ | _ | r
  ·exact h3
  ·exact h4
  ·exact h5
  ·omega
 ·omega
theorem el2z {w : World} {b : Nat} (h0 : w.cell? ⟨b, 0, none⟩ = some (.int .i64 0)) (h1 : w.cell? ⟨b, 1, none⟩ = some (.int .i64 0)) : ∀ i, i < 2 → ∀ r, r < 1 → w.cell? ⟨b, 0 + i * 1 + r, none⟩ = some (.int .i64 0) := by
 intro i hi r hr
 obtain rfl : r = 0 := by omega
 rcases i with _ | _ | i
 ·exact h0
 ·exact h1
 ·omega
def RetSd (l : List Met) (s : Bool) (w : World) (e : Ending) (w' : World) : Prop :=
 ∃ a c a2 c2, e = .returned (.tuple #[.slice (some ⟨a, 0, none⟩) (l.length + 2) c, .slice (some ⟨a2, 0, none⟩) (l.length + 2) c2]) ∧ (l.length + 2 ≤ c ∧ c ≤ 9223372036854775807) ∧
  Els w' (some ⟨a, 0, none⟩) 3 (rwX l s) (l.length + 2) ∧ Els w' (some ⟨a2, 0, none⟩) 1 (prX l) (l.length + 2) ∧ Ext w w'
set_option maxHeartbeats 1000000 in
theorem sides_any (l : List Met) (v : VldM l) (u c : Int) (s : Bool) (D : Nat) (w : World) (hP : Pot w D l u c s) :
 Calls Try.prog 97 #[(.pointer (some ⟨D, 0, none⟩))] w (RetSd l s w) := by
 have n1 := v.n1; have n6 := v.n6
 obtain ⟨a, cap, e3, hel⟩ := hP.r
 have hca : l.length ≤ cap := by
  obtain ⟨a', cap', e', h'⟩ := hP.rc
  rw [e3] at e'
  cases e'
  exact h'
 obtain ⟨b, off, cp, e0, hbl, hmc⟩ := hP.mets (by omega)
 have hDl := hP.lt
 obtain ⟨gb, go, rfl, hgl, _⟩ := hel.at (by omega) (by decide)
 have hel := hid hel
 have hmc := hid hmc
 have hE0 := hid e0
 have g1 := hid (fun i r (hi : i < l.length) => (show rwX l s i r = rwV l s i r by unfold rwX rwN rwV; rw [if_pos hi]))
 have g2 := hid (fun i r (hi : i < 2) => (show rwX l s (l.length + i) r = twoV i r by
  unfold rwX rwN twoV
  rw [if_neg (by omega)]
  rcases i with _ | _ | i
  ·simp
  ·simp
  ·omega))
 have q2 : Hid (∀ i r, i < 2 → prX l (l.length + i) r = .int .i64 0) := hid fun i r hi => by unfold prX; rw [mtl_ge (by omega)]
 have q1 : Hid (∀ i r, prX l i r = .int .i64 (mtl l i).p) := hid fun i r => rfl
 unfold RetSd
 obtain ⟨N, hN⟩ : ∃ N, l.length = N := ⟨_, rfl⟩
 rw [hN] at e3 e0 hel hmc n1 n6 g1 g2 q2 hE0 hca ⊢
 have hN := hid hN
 clear hP v
 go_enter Try.func97, Try.ntmps97
 go_wp2_with fail
 have r0 := hid e0
 have r3 := hid e3
 refine name_act (fun A_ hA_ => ?_)
 obtain ⟨Q2, hQ2⟩ : ∃ Q2 : Exit → Act → World → Prop, Q2 = fun e a' w' => e = .normal ∧ ∃ (b9 : Nat) (cp9 : Nat) (v0_ v1_ v2_ v3_ v4_ v5_ v6_ v7_ v8_ v9_ v10_ v11_ v12_ v13_ v17_ : Value), a' = ((((((((((((((((((((A_.put (some 8) (v0_)).put (some 9) (v1_)).put (some 10) (v2_)).put (some 11) (v3_)).put (some 12) (v4_)).put (some 13) (v5_)).put (some 14) (v6_)).put (some 15) (v7_)).put (some 16) (v8_)).put (some 17) (v9_)).put (some 18) (v10_)).put (some 19) (v11_)).put (some 20) (v12_)).put (some 21) (v13_)).put (some 22) (.slice (some ⟨gb, go, none⟩) N N)).put (some 23) (.agg #[.int .i64 0, .int .i64 1, .int .i64 0])).put (some 24) (.agg #[.int .i64 0, .int .i64 0, .int .i64 1])).put (some 25) (v17_)).put (some 26) (.slice (some ⟨b9, 0, none⟩) (N + 2) cp9)).put (some 4) (.slice (some ⟨b9, 0, none⟩) (N + 2) cp9)) ∧ Ext w w' ∧ Els w' (some ⟨b9, 0, none⟩) 3 (rwX l s) (N + 2) ∧ N + 2 ≤ cp9 ∧ cp9 ≤ 9223372036854775807 := ⟨_, rfl⟩
 have hpan : ∀ c a a' w w', Q2 (.panic c) a w → Q2 (.panic c) a' w' := by rw [hQ2]; rintro c a a' w w' ⟨h, _⟩; cases h
 replace hQ2 := hid hQ2
 refine wp_mono (Q := Q2) ?_ ?_
 ·subst hA_
  have hRD_ := hid (fun w' (x_ : Ext w w') => And.intro (Ext.cell x_ r0.out) (Ext.cell x_ r3.out))
  refine wp_region_held_drew (S := fun w' => Ext w w') (by kernel_rfl) exE fun hHeld => ?_
  refine name_any (fun W0 hW => ?_)
  have s0 : Ext w W0 := by rw [hW]; exact hHeld
  clear hW hHeld
  refine tkB (i := 0) (v := ?_) rfl hpan ?yl ?_
  case yl => (intro w hSw; have k_ := hRD_.out w hSw; go_simp); with_reducible rfl
  try simp only [sxA, sxB, sxC, Act.put, sxD, sxE, sxF]
  refine tkB (i := 1) (v := ?_) rfl hpan ?yl ?_
  case yl => (intro w hSw; have k_ := hRD_.out w hSw; go_simp); with_reducible rfl
  try simp only [sxA, sxB, sxC, Act.put, sxD, sxE, sxF]
  refine tkB (i := 2) (v := ?_) rfl hpan ?yl ?_
  case yl => (intro w hSw; have k_ := hRD_.out w hSw; go_simp); with_reducible rfl
  try simp only [sxA, sxB, sxC, Act.put, sxD, sxE, sxF]
  refine tkB (i := 3) (v := ?_) rfl hpan ?yl ?_
  case yl => (intro w hSw; have k_ := hRD_.out w hSw; go_simp); with_reducible rfl
  try simp only [sxA, sxB, sxC, Act.put, sxD, sxE, sxF]
  refine tkB (i := 4) (v := ?_) rfl hpan ?yl ?_
  case yl => (intro w hSw; have k_ := hRD_.out w hSw; go_simp); with_reducible rfl
  try simp only [sxA, sxB, sxC, Act.put, sxD, sxE, sxF]
  refine tkB (i := 5) (v := ?_) rfl hpan ?yl ?_
  case yl => (intro w hSw; have k_ := hRD_.out w hSw; go_simp); with_reducible rfl
  try simp only [sxA, sxB, sxC, Act.put, sxD, sxE, sxF]
  refine tkB (i := 6) (v := ?_) rfl hpan ?yl ?_
  case yl => (intro w hSw; have k_ := hRD_.out w hSw; go_simp); with_reducible rfl
  try simp only [sxA, sxB, sxC, Act.put, sxD, sxE, sxF]
  refine tkB (i := 7) (v := ?_) rfl hpan ?yl ?_
  case yl => (intro w hSw; have k_ := hRD_.out w hSw; go_simp); with_reducible rfl
  try simp only [sxA, sxB, sxC, Act.put, sxD, sxE, sxF]
  refine tkB (i := 8) (v := ?_) rfl hpan ?yl ?_
  case yl => (intro w hSw; have k_ := hRD_.out w hSw; go_simp); with_reducible rfl
  try simp only [sxA, sxB, sxC, Act.put, sxD, sxE, sxF]
  refine tkB (i := 9) (v := ?_) rfl hpan ?yl ?_
  case yl => (intro w hSw; have k_ := hRD_.out w hSw; go_simp); with_reducible rfl
  try simp only [sxA, sxB, sxC, Act.put, sxD, sxE, sxF]
  refine tkB (i := 10) (v := ?_) rfl hpan ?yl ?_
  case yl => (intro w hSw; have k_ := hRD_.out w hSw; go_simp); with_reducible rfl
  try simp only [sxA, sxB, sxC, Act.put, sxD, sxE, sxF]
  refine tkB (i := 11) (v := ?_) rfl hpan ?yl ?_
  case yl => (intro w hSw; have k_ := hRD_.out w hSw; go_simp); with_reducible rfl
  try simp only [sxA, sxB, sxC, Act.put, sxD, sxE, sxF]
  refine tkB (i := 12) (v := ?_) rfl hpan ?yl ?_
  case yl => (intro w hSw; have k_ := hRD_.out w hSw; go_simp); with_reducible rfl
  try simp only [sxA, sxB, sxC, Act.put, sxD, sxE, sxF]
  refine tkB (i := 13) (v := ?_) rfl hpan ?yl ?_
  case yl => (intro w hSw; have k_ := hRD_.out w hSw; go_simp); with_reducible rfl
  try simp only [sxA, sxB, sxC, Act.put, sxD, sxE, sxF]
  refine tkB (i := 14) (v := ?_) rfl hpan ?yl ?_
  case yl => (intro w hSw; have k_ := hRD_.out w hSw; go_simp); with_reducible rfl
  try simp only [sxA, sxB, sxC, Act.put, sxD, sxE, sxF]
  refine tkB (i := 15) (v := ?_) rfl hpan ?yl ?_
  case yl => (intro w hSw; have k_ := hRD_.out w hSw; go_simp); with_reducible rfl
  try simp only [sxA, sxB, sxC, Act.put, sxD, sxE, sxF]
  refine tkB (i := 16) (v := ?_) rfl hpan ?yl ?_
  case yl => (intro w hSw; have k_ := hRD_.out w hSw; go_simp); with_reducible rfl
  try simp only [sxA, sxB, sxC, Act.put, sxD, sxE, sxF]
  refine wpAnyH_ready (rs := [17]) (by kernel_rfl) (by simp) ?_
  refine AllReadyH.cons (o := _) rfl (fun K hK => ?_) AllReadyH.nil
  go_simp
  refine hK.out _ _ (Ext.alloc s0 _) (fun _ => ?_)
  clear hK K
  (try simp only [sxA, sxB, sxC, Act.put, sxD, sxE, sxF])
  refine name_any (fun W1 hW => ?_)
  have e1 : Ext W0 W1 := by rw [hW]; exact Ext.alloc (Ext.refl _) _
  have s1 := s0.trans e1
  have b17_0 := hid (show W1.cell? ⟨W0.heap.size, 0, none⟩ = some (.int .i64 0) by rw [hW]; simp [go_sem])
  have b17_1 := hid (show W1.cell? ⟨W0.heap.size, 1, none⟩ = some (.int .i64 1) by rw [hW]; simp [go_sem])
  have b17_2 := hid (show W1.cell? ⟨W0.heap.size, 2, none⟩ = some (.int .i64 0) by rw [hW]; simp [go_sem])
  have b17_3 := hid (show W1.cell? ⟨W0.heap.size, 3, none⟩ = some (.int .i64 0) by rw [hW]; simp [go_sem])
  have b17_4 := hid (show W1.cell? ⟨W0.heap.size, 4, none⟩ = some (.int .i64 0) by rw [hW]; simp [go_sem])
  have b17_5 := hid (show W1.cell? ⟨W0.heap.size, 5, none⟩ = some (.int .i64 1) by rw [hW]; simp [go_sem])
  have d17_0 := hid (show W1.frozen? ⟨W0.heap.size, 0, none⟩ = false by rw [hW]; simp [go_sem])
  have d17_1 := hid (show W1.frozen? ⟨W0.heap.size, 1, none⟩ = false by rw [hW]; simp [go_sem])
  have d17_2 := hid (show W1.frozen? ⟨W0.heap.size, 2, none⟩ = false by rw [hW]; simp [go_sem])
  have d17_3 := hid (show W1.frozen? ⟨W0.heap.size, 3, none⟩ = false by rw [hW]; simp [go_sem])
  have d17_4 := hid (show W1.frozen? ⟨W0.heap.size, 4, none⟩ = false by rw [hW]; simp [go_sem])
  have d17_5 := hid (show W1.frozen? ⟨W0.heap.size, 5, none⟩ = false by rw [hW]; simp [go_sem])
  have l17 := hid (show W0.heap.size < W1.heap.size by rw [hW]; simp [go_sem])
  clear hW
  refine wpAnyH_ready (rs := [18]) (by kernel_rfl) (by simp) ?_
  refine AllReadyH.cons (o := _) rfl (fun K hK => ?_) AllReadyH.nil
  refine appGF_wp _ _ _ rfl 120 3 24 Try.underlying116 elemRow3 (by decide) (rwV l s) N (some ⟨gb, go, none⟩) rfl (hel.out.ext s1) W0.heap.size 0 2 2 twoV rfl (twoV_at b17_0.out b17_1.out b17_2.out b17_3.out b17_4.out b17_5.out) (by decide) (by omega) (by decide) (rwX l s) (fun i r hi _ => g1.out i r hi) (fun i r hi _ => g2.out i r hi) ?_
  intro cp9 W2 ho9 hE9_
  obtain ⟨b9, hb9⟩ : ∃ b9, W1.heap.size = b9 := ⟨_, rfl⟩
  rw [hb9] at ho9 ⊢
  clear hb9
  have s2 : Ext w W2 := (s1).trans hE9_
  have hE9 : Els W2 (some ⟨b9, 0, none⟩) 3 (rwX l s) (N + 2) := by
   obtain ⟨_, _, e, _, h⟩ := ho9.els
   cases e
   exact h
  have hc9 : N + 2 ≤ cp9 ∧ cp9 ≤ 9223372036854775807 := by
   obtain ⟨_, _, e, h, _⟩ := ho9.els
   cases e
   exact ⟨h, ho9.capM⟩
  replace hE9 := hid hE9
  replace hc9 := hid hc9
  clear ho9 hE9_
  refine hK.out _ _ s2 (fun _ => ?_)
  clear hK K
  (try simp only [sxA, sxB, sxC, Act.put, sxD, sxE, sxF])
  refine tkB (i := 19) (v := ?_) rfl hpan ?yl ?_
  case yl => (intro w hSw; have k_ := hRD_.out w hSw; go_simp); with_reducible rfl
  try simp only [sxA, sxB, sxC, Act.put, sxD, sxE, sxF]
  refine wpAnyH_done (by kernel_rfl) ?_ _
  try simp only [sxA, sxB, sxC, Act.put, sxD, sxE, sxF]
  rw [hQ2.out]
  refine ⟨rfl, b9, cp9, ?u1_0_1, ?u1_1_1, ?u1_2_1, ?u1_3_1, ?u1_4_1, ?u1_5_1, ?u1_6_1, ?u1_7_1, ?u1_8_1, ?u1_9_1, ?u1_10_1, ?u1_11_1, ?u1_12_1, ?u1_13_1, ?u1_14_1, ?eq1_1, s2, hE9.out, hc9.out⟩
  case eq1_1 => ((try simp only [sxA, sxB, sxC, Act.put, sxD, sxE, sxF]); first | done | with_reducible rfl | rfl)
 rw [hQ2.out]
 rintro e a' w1 ⟨rfl, b9, cp9, v0_, v1_, v2_, v3_, v4_, v5_, v6_, v7_, v8_, v9_, v10_, v11_, v12_, v13_, v17_, rfl, x, hE9, hc9⟩
 clear hQ2 hpan; clear Q2
 subst hA_
 simp only [sxA, sxB, sxC, Act.put, sxD, sxE, sxF]
 have x1 := hid x
 have hE9 := hid hE9
 have hc9 := hid hc9
 have e0 := x1.out.cell hE0.out
 have hl1 := x1.out.size
 have hDl1 : D < w1.heap.size := by omega
 clear x e3 r0 r3
 go_wp2_with fail
 go_loopw [5, 33] (fun p i wr => ∃ k : Nat, k ≤ N ∧ i = .int .i64 k ∧ Hid (OwnG wr w1.heap.size 2 1 p (prX l) k) ∧ Hid (Ext w1 wr)) (fun _ i _ => (N - intOf i).toNat)
 case atStart => exact ⟨0, by omega, rfl, hid (OwnG.nil _ _ _ _ _), hid (Ext.refl _)⟩
 case round =>
  obtain ⟨k, hk, rfl, ho, hx⟩ := hrel
  by_cases hkl : k < N
  ·obtain ⟨j0, j1, j2, j3, j4⟩ := (hmc.out k hkl).ext (x1.out.trans hx.out)
   have hkI : (k : Int) < (N : Int) := by omega
   have t1 := Go.IntWalk.i64_in ((k : Int) + 1) (by omega)
   have hz := hx.out.size
   have hq := q1.out k
   obtain ⟨p, hp⟩ : ∃ p, (mtl l k).p = p := ⟨_, rfl⟩
   rw [hp] at j0 hq
   replace hq := hid hq
   replace hp := hid hp
   clear e0
   go_wp2_with (at_builtin; refine wpList_plain rfl (fun K hK => ?_); refine appG_wp _ _ _ rfl 2 1 8 Try.underlying25 elemI1 (by decide) w1.heap.size (prX l) k _ rfl _ 0 1 1 (fun _ _ => .int .i64 p) rfl (ho.out.ext exE) (el1 (by simp [go_sem])) (by decide) (fun _ _ _ _ => rfl) (by omega) (by decide) (by simp; omega) (prX l) (fun _ _ _ _ => rfl) (fun i r hi _ => (by rw [show i = 0 by omega]; exact hq.out r)) ?_; intro b8 cp8 w8 own8 g8 at8 hb8 ext8; refine hK _ _ ?_)
   go_roundw
   case rel => exact ⟨k + 1, by omega, by go_num, hid own8, hid (ext8 _ (by have := hx.out; exact exE) (Nat.le_refl _))⟩
   case measure => simp [intOf]; omega
  ·have hkN : k = N := by omega
   have hnn : ¬ (N : Int) < (N : Int) := by omega
   rw [hkN] at ho
   rw [hkN]
   have hz := hx.out.size
   clear hkN hkl hk e0
   go_wp2_with (at_builtin; refine wpList_plain rfl (fun K hK => ?_); refine appG_wp _ _ _ rfl 2 1 8 Try.underlying25 elemI1 (by decide) w1.heap.size (prX l) N _ rfl _ 0 2 2 (fun _ _ => .int .i64 0) rfl (ho.out.ext exE) (el2z (by simp [go_sem]) (by simp [go_sem])) (by decide) (fun _ _ _ _ => rfl) (by omega) (by decide) (by simp; omega) (prX l) (fun _ _ _ _ => rfl) (fun i r hi _ => q2.out i r hi) ?_; intro b8 cp8 w8 own8 g8 at8 hb8 ext8; refine hK _ _ ?_)
   have x8 : Ext w1 w8 := ext8 _ (by have := hx.out; exact exE) (Nat.le_refl _)
   refine bodyPost_ret (v := .tuple #[.slice (some ⟨b9, 0, none⟩) (N + 2) cp9, .slice (some ⟨b8, 0, none⟩) (N + 2) cp8]) (by simp [results, Try.results97, go_sem]) rfl ⟨b9, cp9, b8, ⟨cp8, rfl⟩, hc9.out, hE9.out.ext x8, ?_, x1.out.trans x8⟩
   obtain ⟨_, _, e, _, h⟩ := own8.els
   cases e
   exact h
theorem rwN_bd {l : List Met} (v : VldM l) (s : Bool) (i k : Nat) : -1000 ≤ rwN l s i k ∧ rwN l s i k ≤ 1000 := by
 have h1 := badL_bd v s i
 have h2 := goodC_bd v s i
 unfold rwN rwM
 repeat' split
 all_goals omega
theorem crs3_bd {a b : Nat → Int} (ha : ∀ k, -1000 ≤ a k ∧ a k ≤ 1000) (hb : ∀ k, -1000 ≤ b k ∧ b k ≤ 1000) (k : Nat) : -2000000 ≤ crs a b k ∧ crs a b k ≤ 2000000 := by
 have b12 := mulA_bd (ha 1) (hb 2)
 have b21 := mulA_bd (ha 2) (hb 1)
 have b20 := mulA_bd (ha 2) (hb 0)
 have b02 := mulA_bd (ha 0) (hb 2)
 have b01 := mulA_bd (ha 0) (hb 1)
 have b10 := mulA_bd (ha 1) (hb 0)
 unfold crs
 repeat' split
 all_goals omega
def dN (l : List Met) (s : Bool) (i k j : Nat) : Int := dtv (rwN l s i) (crs (rwN l s k) (rwN l s j))
def xN (l : List Met) (s : Bool) (i k j n : Nat) : Int := (mtl l i).p * crs (rwN l s k) (rwN l s j) n + (mtl l k).p * crs (rwN l s j) (rwN l s i) n + (mtl l j).p * crs (rwN l s i) (rwN l s k) n
def cnQ (l : List Met) (s : Bool) (i k j : Nat) : List Int :=
 if dN l s i k j < 0 then [-(dN l s i k j), -(xN l s i k j 0), -(xN l s i k j 1), -(xN l s i k j 2)] else [dN l s i k j, xN l s i k j 0, xN l s i k j 1, xN l s i k j 2]
abbrev PL := List (List Int × Int)
def stP (l : List Met) (s : Bool) (i k j : Nat) (L : PL) : PL := if dN l s i k j = 0 then L else putP L (cnQ l s i k j)
def P3 (l : List Met) (s : Bool) (i k : Nat) : Nat → PL → PL
 | 0, L => L
 | j + 1, L => stP l s i k j (P3 l s i k j L)
def P2 (l : List Met) (s : Bool) (i : Nat) : Nat → PL → PL
 | 0, L => L
 | k + 1, L => P3 l s i k k (P2 l s i k L)
def P1 (l : List Met) (s : Bool) : Nat → PL
 | 0 => []
 | i + 1 => P2 l s i i (P1 l s i)
theorem dN_bd {l : List Met} (v : VldM l) (s : Bool) (i k j : Nat) : -1073741824 ≤ dN l s i k j ∧ dN l s i k j ≤ 1073741824 := by
 have a0 : rwN l s i 0 = 0 ∨ rwN l s i 0 = 1 := by
  unfold rwN rwM
  split
  ·exact .inr rfl
  ·split <;> exact .inl rfl
 have c := fun n => crs3_bd (rwN_bd v s k) (rwN_bd v s j) n
 -- the numbers of rows but the first: no more than the sum
 have k0 : ∀ i, rwN l s i 0 = 0 ∨ rwN l s i 0 = 1 := fun i => by
  unfold rwN rwM
  split
  ·exact .inr rfl
  ·split <;> exact .inl rfl
 have c1 : ∀ n, n = 1 ∨ n = 2 → -2000 ≤ crs (rwN l s k) (rwN l s j) n ∧ crs (rwN l s k) (rwN l s j) n ≤ 2000 := fun n hn => by
  have p1 := rwN_bd v s k 1; have p2 := rwN_bd v s k 2
  have q1 := rwN_bd v s j 1; have q2 := rwN_bd v s j 2
  unfold crs
  rcases k0 k with e1 | e1 <;> rcases k0 j with e2 | e2 <;> rcases hn with rfl | rfl <;> simp [e1, e2] <;> omega
 have h1 := mulA_bd (rwN_bd v s i 1) (c1 1 (.inl rfl))
 have h2 := mulA_bd (rwN_bd v s i 2) (c1 2 (.inr rfl))
 have h0 := c 0
 unfold dN dtv
 rcases a0 with e | e <;> rw [e] <;> omega
theorem xN_bd {l : List Met} (v : VldM l) (s : Bool) (i k j n : Nat) : -6000000000 ≤ xN l s i k j n ∧ xN l s i k j n ≤ 6000000000 := by
 have p1 := v.pr i; have p2 := v.pr k; have p3 := v.pr j
 have h1 := mulA_bd (x := (mtl l i).p) (A := 1000) (by omega) (crs3_bd (rwN_bd v s k) (rwN_bd v s j) n)
 have h2 := mulA_bd (x := (mtl l k).p) (A := 1000) (by omega) (crs3_bd (rwN_bd v s j) (rwN_bd v s i) n)
 have h3 := mulA_bd (x := (mtl l j).p) (A := 1000) (by omega) (crs3_bd (rwN_bd v s i) (rwN_bd v s k) n)
 unfold xN
 omega
theorem cnQ_ok {l : List Met} (v : VldM l) (s : Bool) (i k j : Nat) : T4 4 (cnQ l s i k j) ∧ BdK (cnQ l s i k j) := by
 have hd := dN_bd v s i k j
 have h0 := xN_bd v s i k j 0
 have h1 := xN_bd v s i k j 1
 have h2 := xN_bd v s i k j 2
 unfold cnQ BdK Pn
 split
 ·refine ⟨⟨rfl, by decide, fun i => ?_⟩, by simp [nth]; omega⟩
  match i with
  | 0 => simp [nth, I64]; omega
  | 1 => simp [nth, I64]; omega
  | 2 => simp [nth, I64]; omega
  | 3 => simp [nth, I64]; omega
  | i + 4 => simp [nth, I64]
 ·refine ⟨⟨rfl, by decide, fun i => ?_⟩, by simp [nth]; omega⟩
  match i with
  | 0 => simp [nth, I64]; omega
  | 1 => simp [nth, I64]; omega
  | 2 => simp [nth, I64]; omega
  | 3 => simp [nth, I64]; omega
  | i + 4 => simp [nth, I64]
structure PutL (G : List Int → Prop) (L : PL) : Prop where
 num : Num L
 good : ∀ p ∈ L, G p.1
theorem PutL.nil (G : List Int → Prop) : PutL G [] := ⟨fun i p h => by simp at h, fun p h => by simp at h⟩
theorem PutL.put {G : List Int → Prop} {L : PL} (h : PutL G L) {x : List Int} (hx : G x) : PutL G (putP L x) := by
 refine ⟨h.num.put x, fun p hp => ?_⟩
 have : p.1 ∈ (putP L x).map Prod.fst := List.mem_map.2 ⟨p, hp, rfl⟩
 rcases putP_mem.1 this with h' | h'
 ·obtain ⟨q, hq, e⟩ := List.mem_map.1 h'
  rw [← e]; exact h.good q hq
 ·rw [h']; exact hx
theorem stP_ok {l : List Met} (v : VldM l) (s : Bool) (i k j : Nat) {L : PL} (h : PutL BdK L) : PutL BdK (stP l s i k j L) := by
 unfold stP
 split
 ·exact h
 ·exact h.put (cnQ_ok v s i k j).2
theorem P3_ok {l : List Met} (v : VldM l) (s : Bool) (i k : Nat) : ∀ (j : Nat) {L : PL}, PutL BdK L → PutL BdK (P3 l s i k j L)
 | 0, _, h => h
 | j + 1, _, h => stP_ok v s i k j (P3_ok v s i k j h)
theorem P2_ok {l : List Met} (v : VldM l) (s : Bool) (i : Nat) : ∀ (k : Nat) {L : PL}, PutL BdK L → PutL BdK (P2 l s i k L)
 | 0, _, h => h
 | k + 1, _, h => P3_ok v s i k k (P2_ok v s i k h)
theorem P1_ok {l : List Met} (v : VldM l) (s : Bool) : ∀ i, PutL BdK (P1 l s i)
 | 0 => PutL.nil _
 | i + 1 => P2_ok v s i i (P1_ok v s i)
theorem PutL.asc {G : List Int → Prop} {L : PL} (h : PutL G L) (f : List Int × Int → Bool) : Asc (L.filter f) := by
 have hp : L.Pairwise fun p q => p.2 < q.2 := by
  refine List.pairwise_iff_getElem.2 fun i j hi hj hij => ?_
  have h1 := h.num i L[i] (List.getElem?_eq_getElem hi)
  have h2 := h.num j L[j] (List.getElem?_eq_getElem hj)
  rw [h1, h2]; omega
 refine ⟨hp.sublist List.filter_sublist, fun p hq => ?_⟩
 obtain ⟨i, hi, rfl⟩ := List.getElem_of_mem (List.mem_filter.1 hq).1
 rw [h.num i _ (List.getElem?_eq_getElem hi)]
 omega
def RetMap (M : PL) (w : World) (e : Ending) (w' : World) : Prop :=
 ∃ bx b c mo k, e = .returned (.func (.func 108) #[] #[.pointer (some ⟨bx, 0, none⟩)]) ∧ OF b bx mo w' ∧ (∀ W : World, W.heap[b]? = some mo → TM W b 4 c k) ∧ k.Perm M ∧ Ext w w'
def nvK (l : List Met) (s : Bool) (i k q : Nat) : List Int := [0, (if q = 0 then 1 else -1) * crs (rwN l s i) (rwN l s k) 0, (if q = 0 then 1 else -1) * crs (rwN l s i) (rwN l s k) 1, (if q = 0 then 1 else -1) * crs (rwN l s i) (rwN l s k) 2]
def valU (u c : Int) (x : List Int) : Int := nth x 1 - nth x 2 * u + nth x 3 * c
def stN (l : List Met) (u c : Int) (s : Bool) (i k q : Nat) (L : PL) : PL := if 0 < valU u c (nvK l s i k q) then putP L (nvK l s i k q) else L
def N3 (l : List Met) (u c : Int) (s : Bool) (i k : Nat) : Nat → PL → PL
 | 0, L => L
 | q + 1, L => stN l u c s i k q (N3 l u c s i k q L)
def N2 (l : List Met) (u c : Int) (s : Bool) (i : Nat) : Nat → PL → PL
 | 0, L => L
 | k + 1, L => N3 l u c s i k 2 (N2 l u c s i k L)
def N1 (l : List Met) (u c : Int) (s : Bool) : Nat → PL
 | 0 => []
 | i + 1 => N2 l u c s i i (N1 l u c s i)
theorem nvK_ok {l : List Met} (v : VldM l) (s : Bool) (i k q : Nat) : T4 4 (nvK l s i k q) ∧ BdK (nvK l s i k q) := by
 have h0 := crs3_bd (rwN_bd v s i) (rwN_bd v s k) 0
 have h1 := crs3_bd (rwN_bd v s i) (rwN_bd v s k) 1
 have h2 := crs3_bd (rwN_bd v s i) (rwN_bd v s k) 2
 unfold nvK BdK Pn
 split
 ·refine ⟨⟨rfl, by decide, fun i => ?_⟩, by simp [nth]; omega⟩
  match i with
  | 0 => simp [nth, I64]
  | 1 => simp [nth, I64]; omega
  | 2 => simp [nth, I64]; omega
  | 3 => simp [nth, I64]; omega
  | i + 4 => simp [nth, I64]
 ·refine ⟨⟨rfl, by decide, fun i => ?_⟩, by simp [nth]; omega⟩
  match i with
  | 0 => simp [nth, I64]
  | 1 => simp [nth, I64]; omega
  | 2 => simp [nth, I64]; omega
  | 3 => simp [nth, I64]; omega
  | i + 4 => simp [nth, I64]
theorem stN_ok {l : List Met} (v : VldM l) (u c : Int) (s : Bool) (i k j : Nat) {L : PL} (h : PutL BdK L) : PutL BdK (stN l u c s i k j L) := by
 unfold stN
 split
 ·exact h.put (nvK_ok v s i k j).2
 ·exact h
theorem N3_ok {l : List Met} (v : VldM l) (u c : Int) (s : Bool) (i k : Nat) : ∀ (j : Nat) {L : PL}, PutL BdK L → PutL BdK (N3 l u c s i k j L)
 | 0, _, h => h
 | j + 1, _, h => stN_ok v u c s i k j (N3_ok v u c s i k j h)
theorem N2_ok {l : List Met} (v : VldM l) (u c : Int) (s : Bool) (i : Nat) : ∀ (k : Nat) {L : PL}, PutL BdK L → PutL BdK (N2 l u c s i k L)
 | 0, _, h => h
 | k + 1, _, h => N3_ok v u c s i k 2 (N2_ok v u c s i k h)
theorem N1_ok {l : List Met} (v : VldM l) (u c : Int) (s : Bool) : ∀ i, PutL BdK (N1 l u c s i)
 | 0 => PutL.nil _
 | i + 1 => N2_ok v u c s i i (N1_ok v u c s i)
theorem Arr3.grown {w w' : World} {X b : Nat} {f : Nat → Int} (h : Arr3 w X f) (g : w.grownBy w' (some b)) (hne : X ≠ b) : Arr3 w' X f :=
 ⟨fun k hk => g.cell (h.c k hk) (fun e => hne (Option.some.inj e)), fun k hk => (grownBy_frozen g h.l (fun e => hne (Option.some.inj e))).trans (h.f k hk), Nat.lt_of_lt_of_le h.l g.size⟩
theorem box_put {w : World} {b b' o o' : Nat} {u v : Value} (h : b ≠ b') (hc : w.cell? ⟨b, o, none⟩ = some v) : (w.setCell ⟨b', o', none⟩ u).cell? ⟨b, o, none⟩ = some v :=
 (World.cell?_of_block (Below.heap_setCell w ⟨b', o', none⟩ u b h)).trans hc
theorem arr3_new {w W : World} {t : TypeId} (h : W = w.alloc (.cells #[.int .i64 0, .int .i64 0, .int .i64 0] t)) : Arr3 W w.heap.size (fun _ => 0) := by
 subst h
 refine ⟨fun k hk => ?_, fun k hk => ?_, by simp⟩
 ·rcases k with _ | _ | _ | k <;> first | (simp [go_sem]; done) | omega
 ·simp [go_sem]
theorem arr3_put {w W : World} {X : Nat} {f g : Nat → Int} (h : Arr3 w X g) (hW : W = ((w.setCell ⟨X, 0, none⟩ (.int .i64 (f 0))).setCell ⟨X, 1, none⟩ (.int .i64 (f 1))).setCell ⟨X, 2, none⟩ (.int .i64 (f 2))) : Arr3 W X f := by
 subst hW
 refine (((h.set (j := 0) (by decide) (f 0)).set (j := 1) (by decide) (f 1)).set (j := 2) (by decide) (f 2)).congr fun k hk => ?_
 rcases k with _ | _ | _ | k <;> first | (simp; done) | omega
theorem arr3_oth {w W : World} {X Y : Nat} {g : Nat → Int} {u v z : Value} (h : Arr3 w Y g) (hn : Y ≠ X) (hW : W = ((w.setCell ⟨X, 0, none⟩ u).setCell ⟨X, 1, none⟩ v).setCell ⟨X, 2, none⟩ z) : Arr3 W Y g := by
 subst hW
 exact ⟨fun k hk => box_put hn (box_put hn (box_put hn (h.c k hk))), fun k hk => by simp [World.frozen?_setCell, h.f k hk], by simpa using h.l⟩
structure MapI (w0 : World) (b : Nat) (L : PL) (B : Nat) (w : World) : Prop where
 m : ∃ c, TM w b 4 c L ∧ c ≤ B ∧ L.length ≤ c
 g : w0.grownBy w (some b)
theorem MapI.le {w0 : World} {b : Nat} {L : PL} {B B' : Nat} {w : World} (h : MapI w0 b L B w) (hb : B ≤ B') : MapI w0 b L B' w :=
 ⟨let ⟨c, h1, h2, h3⟩ := h.m; ⟨c, h1, by omega, h3⟩, h.g⟩
theorem MapI.ext {w0 : World} {b : Nat} {L : PL} {B : Nat} {w w' : World} (h : MapI w0 b L B w) (x : Ext w w') : MapI w0 b L B w' :=
 ⟨let ⟨c, h1, h2, h3⟩ := h.m; ⟨c, h1.ext x, h2, h3⟩, h.g.andThen (x.grows.but (some b)) (fun j e => .inr e)⟩
theorem MapI.at {w0 : World} {b : Nat} {L : PL} {B : Nat} {w : World} (h : MapI w0 b L B w) : MapI w b L B w := ⟨h.m, (Ext.refl w).grows.but _⟩
theorem MapI.then {w0 w1 : World} {b : Nat} {L L' : PL} {B B' : Nat} {w : World} (h : MapI w0 b L B w1) (k : MapI w1 b L' B' w) : MapI w0 b L' B' w :=
 ⟨k.m, h.g.andThen k.g (fun j e => .inr e)⟩
theorem MapI.from {wB w0 : World} {b : Nat} {L : PL} {B : Nat} {w : World} (h : MapI w0 b L B w) (x : Ext wB w0) (hb : wB.heap.size ≤ b) : Ext wB w :=
 Ext.grown x h.g (fun j e => by cases e; exact hb)
set_option maxHeartbeats 4000000 in
theorem nevers_any (l : List Met) (v : VldM l) (u c : Int) (hu : 0 ≤ u ∧ u ≤ 1000) (hc : 0 ≤ c ∧ c ≤ 1000) (s : Bool) (D : Nat) (w : World) (hP : Pot w D l u c s) :
 Calls Try.prog 79 #[(.pointer (some ⟨D, 0, none⟩))] w (RetMap ((N1 l u c s (l.length + 2)).filter fun p => gdP l s p.1) w) := by
 have n1 := v.n1; have n6 := v.n6
 have hV := hid v
 have hP := hid hP
 have hsd := hid (sides_any l v u c s D w hP.out)
 clear v
 go_enter Try.func79, Try.ntmps79
 go_wp2_with fail
 refine hsd.out.mono ?_; rintro e wB ⟨a, c1, a2, c2, rfl, hc1, hA, hA2, hE⟩
 have hdl := hP.out.lt
 obtain ⟨_, _, e', _, hR⟩ := hA.at (by omega) (by decide)
 cases e'
 obtain ⟨_, _, e', _, hQ⟩ := hA2.at (by omega) (by decide)
 cases e'
 have hR : Hid (∀ i, i < l.length + 2 → ∀ k, k < 3 → wB.cell? ⟨a, i * 3 + k, none⟩ = some (.int .i64 (rwN l s i k))) := hid fun i hi k hk => by have := hR i hi k hk; rw [Nat.zero_add] at this; exact this
 have hQ : Hid (∀ i, i < l.length + 2 → wB.cell? ⟨a2, i, none⟩ = some (.int .i64 (mtl l i).p)) := hid fun i hi => by have := hQ i hi 0 (by decide); rw [Nat.zero_add, Nat.mul_one, Nat.add_zero] at this; exact this
 have xB := hid hE
 have hzB := hE.size
 clear hA hA2 hE hsd
 have hmm := @run_makeMap Try.prog
 go_wp2_with fail
 clear hmm
 obtain ⟨w0, hw0⟩ : ∃ w0, wB.alloc (.map #[] 0) = w0 := ⟨_, rfl⟩
 have hTM := TM.made wB 4
 have xB0 : Ext wB w0 := by rw [← hw0]; exact exE
 rw [hw0] at hTM ⊢
 have hI0 := hid (show MapI w0 wB.heap.size [] 0 w0 from ⟨⟨0, hTM, Nat.le_refl _, Nat.le_refl _⟩, (Ext.refl w0).grows.but _⟩)
 have xB0 := hid xB0
 obtain ⟨b, hb⟩ : ∃ b, wB.heap.size = b := ⟨_, rfl⟩
 rw [hb] at hI0 ⊢
 have hbl := hI0.out.m.elim fun c h => h.1.lt
 have hb := hid hb
 have hw0 := hid hw0
 clear hTM
 go_loopw [22] (fun i wr => ∃ j : Nat, j ≤ l.length + 2 ∧ i = .int .i64 j ∧ Hid (MapI w0 b (N1 l u c s j) (j * 16) wr)) (fun i _ => (l.length + 2 - intOf i).toNat)
 case atStart => exact ⟨0, by omega, rfl, hI0⟩
 case round =>
  obtain ⟨i, hi, rfl, hI⟩ := hrel
  have xr := hid (hI.out.from xB0.out (Nat.le_of_eq hb.out))
  by_cases hil : i < l.length + 2
  ·have q0 := xr.out.cell (hR.out i hil 0 (by decide))
   have q1 := xr.out.cell (hR.out i hil 1 (by decide))
   have q2 := xr.out.cell (hR.out i hil 2 (by decide))
   rw [Nat.add_zero] at q0
   have hilI : (i : Int) < (l.length : Int) + 2 := by omega
   have ti := Go.IntWalk.i64_in ((i : Int) + 1) (by omega)
   have hic : i ≤ c1 := by have := hc1.1; omega
   have hbr := xr.out.size
   have hir := hid hI.out
   go_wp2_with fail
   refine name_wp (fun wo hwo => ?_)
   have xo : Ext wr wo := by rw [hwo]; exact exE
   have h7 : Arr3 wo wr.heap.size (rwN l s i) := by
    refine ⟨fun k hk => ?_, fun k hk => ?_, by rw [hwo]; simp⟩
    ·rw [hwo]; rcases k with _ | _ | _ | k <;> first | (simp [go_sem]; done) | omega
    ·rw [hwo]; simp [go_sem]
   have hb7r : b < wr.heap.size := by have := xr.out.size; have := hb.out; have h := hI.out.m.elim fun c h => h.1.lt; omega
   have hIo := hid (hI.out.at.ext xo)
   have hxo := hid xo
   have xo := hid (xr.out.trans xo)
   have h7 := hid h7
   have hIo := hid (hIo.out.at)
   obtain ⟨B7, hB7⟩ : ∃ B, wr.heap.size = B := ⟨_, rfl⟩
   rw [hB7] at h7 hb7r ⊢
   replace hB7 := hid hB7
   clear q0 q1 q2 hwo hbr hir
   go_loopw [31] (fun i' wv => ∃ k : Nat, k ≤ i ∧ i' = .int .i64 k ∧ Hid (MapI wo b (N2 l u c s i k (N1 l u c s i)) (i * 16 + k * 2) wv)) (fun i' _ => (i - intOf i').toNat)
   case atStart => exact ⟨0, by omega, rfl, hIo⟩
   case round =>
    obtain ⟨k, hk, rfl, hI2⟩ := hrel
    have xr := hid (hI2.out.from xo.out (Nat.le_of_eq hb.out))
    by_cases hkl : k < i
    ·have q0 := xr.out.cell (hR.out k (by omega) 0 (by decide))
     have q1 := xr.out.cell (hR.out k (by omega) 1 (by decide))
     have q2 := xr.out.cell (hR.out k (by omega) 2 (by decide))
     rw [Nat.add_zero] at q0
     have hklI : (k : Int) < (i : Int) := by omega
     have tk := Go.IntWalk.i64_in ((k : Int) + 1) (by omega)
     have h7w := h7.out.grown hI2.out.g (by omega)
     have r70 := h7w.c 0 (by decide); have r71 := h7w.c 1 (by decide); have r72 := h7w.c 2 (by decide)
     have l7 := h7w.l
     have ka := hid (fun i => rwN_bd hV.out s i)
     have kc1 := hid (fun W => cross_any (rwN l s i) (rwN l s k) (ka.out i) (ka.out k) W)
     go_wp2_with fail
     refine (kc1.out _).mono ?_; rintro e wp ⟨rfl, hEp⟩
     have xp : Ext wr wp := exE
     have hb9r : b < wr.heap.size := hI2.out.m.elim fun c h => h.1.lt
     have hIp := hid (hI2.out.ext xp)
     have xp2 := hid (xr.out.trans xp)
     have hzp : b < wp.heap.size := by have := xp.size; omega
     clear q0 q1 q2 r70 r71 r72 hEp xp h7w l7
     go_wp2_with fail
     refine name_wp (fun wq hwq => ?_)
     have xq : Ext wp wq := by rw [hwq]; exact exE
     have hX : Arr3 wq wp.heap.size (crs (rwN l s i) (rwN l s k)) := by
      refine ⟨fun k hk => ?_, fun k hk => ?_, by rw [hwq]; simp; omega⟩
      ·rw [hwq]; rcases k with _ | _ | _ | k <;> first | (simp [go_sem]; done) | omega
      ·rw [hwq]; simp [go_sem]
     have hS : Hid (∀ q, q < 2 → wq.cell? ⟨wp.heap.size + 1, q, none⟩ = some (.int .i64 (if q = 0 then 1 else -1))) := hid fun q hq => by
      rw [hwq]; rcases q with _ | _ | q <;> first | (simp [go_sem]; done) | omega
     have hIq := hid ((hIp.out.ext xq).at)
     have hgp := hid (hIp.out.ext xq)
     have xqB := hid (xp2.out.trans xq)
     have hX := hid hX
     have hzq : b < wq.heap.size := by have := xq.size; omega
     obtain ⟨BX, hBX⟩ : ∃ B, wp.heap.size = B := ⟨_, rfl⟩
     rw [hBX] at hX hS hzp ⊢
     replace hBX := hid hBX
     clear hwq xq
     go_loopw [40] (fun i' wv => ∃ q : Nat, q ≤ 2 ∧ i' = .int .i64 q ∧ Hid (MapI wq b (N3 l u c s i k q (N2 l u c s i k (N1 l u c s i))) (i * 16 + k * 2 + q) wv)) (fun i' _ => (2 - intOf i').toNat)
     case atStart => exact ⟨0, by omega, rfl, hIq⟩
     case round =>
      obtain ⟨q, hq, rfl, hI3⟩ := hrel
      have xr3 := hid (hI3.out.from xqB.out (Nat.le_of_eq hb.out))
      by_cases hql : q < 2
      ·have h13 := hX.out.grown hI3.out.g (by omega)
       have r0 := h13.c 0 (by decide); have r1 := h13.c 1 (by decide); have r2 := h13.c 2 (by decide)
       have rs := hI3.out.g.cell (hS.out q hql) (fun e => by have := Option.some.inj e; dsimp only at this; omega)
       have ls := cell_lt rs
       have lX := h13.l
       dsimp only at ls
       have hb0 := crs3_bd (ka.out i) (ka.out k) 0
       have hb1 := crs3_bd (ka.out i) (ka.out k) 1
       have hb2 := crs3_bd (ka.out i) (ka.out k) 2
       have hqlI : (q : Int) < 2 := by omega
       have tq := Go.IntWalk.i64_in ((q : Int) + 1) (by omega)
       have hok := hid (nvK_ok hV.out s i k q)
       have hst : Hid (N3 l u c s i k (q + 1) (N2 l u c s i k (N1 l u c s i)) = stN l u c s i k q (N3 l u c s i k q (N2 l u c s i k (N1 l u c s i)))) := hid rfl
       have hnv : Hid (nvK l s i k q = [0, (if q = 0 then 1 else -1) * crs (rwN l s i) (rwN l s k) 0, (if q = 0 then 1 else -1) * crs (rwN l s i) (rwN l s k) 1, (if q = 0 then 1 else -1) * crs (rwN l s i) (rwN l s k) 2]) := hid rfl
       have hsg : (if q = 0 then (1 : Int) else -1) = 1 ∨ (if q = 0 then (1 : Int) else -1) = -1 := by split <;> simp
       obtain ⟨sg, hsge⟩ : ∃ z, (if q = 0 then (1 : Int) else -1) = z := ⟨_, rfl⟩
       rw [hsge] at rs hnv hsg
       replace hsge := hid hsge
       obtain ⟨y0, hy0⟩ : ∃ z, crs (rwN l s i) (rwN l s k) 0 = z := ⟨_, rfl⟩
       obtain ⟨y1, hy1⟩ : ∃ z, crs (rwN l s i) (rwN l s k) 1 = z := ⟨_, rfl⟩
       obtain ⟨y2, hy2⟩ : ∃ z, crs (rwN l s i) (rwN l s k) 2 = z := ⟨_, rfl⟩
       rw [hy0] at r0 hnv hb0
       rw [hy1] at r1 hnv hb1
       rw [hy2] at r2 hnv hb2
       replace hy0 := hid hy0; replace hy1 := hid hy1; replace hy2 := hid hy2
       have m0 : Hid (-2000000 ≤ sg * y0 ∧ sg * y0 ≤ 2000000) := hid (by rcases hsg with e | e <;> rw [e] <;> omega)
       have m1 : Hid (-2000000 ≤ sg * y1 ∧ sg * y1 ≤ 2000000) := hid (by rcases hsg with e | e <;> rw [e] <;> omega)
       have m2 : Hid (-2000000 ≤ sg * y2 ∧ sg * y2 ≤ 2000000) := hid (by rcases hsg with e | e <;> rw [e] <;> omega)
       obtain ⟨Z0, hZ0⟩ : ∃ z, sg * y0 = z := ⟨_, rfl⟩
       obtain ⟨Z1, hZ1⟩ : ∃ z, sg * y1 = z := ⟨_, rfl⟩
       obtain ⟨Z2, hZ2⟩ : ∃ z, sg * y2 = z := ⟨_, rfl⟩
       rw [hZ0] at m0 hnv
       rw [hZ1] at m1 hnv
       rw [hZ2] at m2 hnv
       have t0 : IntKind.i64.wrap (sg * y0) = Z0 := by rw [hZ0]; exact Go.IntWalk.i64_in Z0 (by have := m0.out; omega)
       have t1 : IntKind.i64.wrap (sg * y1) = Z1 := by rw [hZ1]; exact Go.IntWalk.i64_in Z1 (by have := m1.out; omega)
       have t2 : IntKind.i64.wrap (sg * y2) = Z2 := by rw [hZ2]; exact Go.IntWalk.i64_in Z2 (by have := m2.out; omega)
       replace hZ0 := hid hZ0; replace hZ1 := hid hZ1; replace hZ2 := hid hZ2
       have hpn : Hid (Pn Z0 Z1 Z2) := hid (by have := m0.out; have := m1.out; have := m2.out; exact ⟨by omega, by omega, by omega⟩)
       have hvl : Hid (valU u c (nvK l s i k q) = Z0 - Z1 * u + Z2 * c) := hid (by rw [hnv.out]; rfl)
       clear hsg h13
       have hval := hid (fun W (x : Ext wr W) => value_any l u c hu hc s D 0 Z0 Z1 Z2 hpn.out W (hP.out.ext ((xB.out.trans xr3.out).trans x)))
       have hkv : Hid (kv (nvK l s i k q) = .agg #[.int .i64 0, .int .i64 Z0, .int .i64 Z1, .int .i64 Z2]) := hid (by rw [hnv.out]; rfl)
       go_wp2_with fail
       refine (hval.out _ exE).mono ?_; rintro e w4 ⟨rfl, hE4⟩
       rw [← hvl.out]
       have x4 : Ext wr w4 := exE
       have hI5 := hid (hI3.out.ext x4)
       have p0 := hE4.cell (p := ⟨wr.heap.size, 0, none⟩) (v := .int .i64 0) (by simp [go_sem])
       have p1 := hE4.cell (p := ⟨wr.heap.size, 1, none⟩) (v := .int .i64 Z0) (by simp [go_sem])
       have p2 := hE4.cell (p := ⟨wr.heap.size, 2, none⟩) (v := .int .i64 Z1) (by simp [go_sem])
       have p3 := hE4.cell (p := ⟨wr.heap.size, 3, none⟩) (v := .int .i64 Z2) (by simp [go_sem])
       obtain ⟨V, hVe⟩ : ∃ V, valU u c (nvK l s i k q) = V := ⟨_, rfl⟩
       rw [hVe]
       have hle : i * 16 + k * 2 + q ≤ 1000 := by omega
       have hst2 : Hid (N3 l u c s i k (q + 1) (N2 l u c s i k (N1 l u c s i)) = if 0 < V then putP (N3 l u c s i k q (N2 l u c s i k (N1 l u c s i))) (nvK l s i k q) else (N3 l u c s i k q (N2 l u c s i k (N1 l u c s i)))) := hid (by rw [hst.out]; unfold stN; rw [hVe])
       replace hVe := hid hVe
       obtain ⟨L3, hL3⟩ : ∃ L, N3 l u c s i k q (N2 l u c s i k (N1 l u c s i)) = L := ⟨_, rfl⟩
       rw [hL3] at hst2 hI5
       clear hst hE4 r0 r1 r2 rs t0 t1 t2 hval
       by_cases hV0 : 0 < V
       ·rw [if_pos hV0] at hst2
        obtain ⟨cc, hTM, hcc, hlc⟩ := hI5.out.m
        have hpt := hid (putM_any b cc L3 (nvK l s i k q) hok.out.1 (by omega) (by omega) w4 hTM)
        rw [hkv.out] at hpt
        have hcc := hid hcc
        have hlc := hid hlc
        clear hTM
        go_wp2_with fail
        refine hpt.out.mono ?_; rintro e w5 ⟨⟨vv, rfl⟩, hT5, hg5⟩
        have hI6 : Hid (MapI wq b (putP L3 (nvK l s i k q)) (i * 16 + k * 2 + (q + 1)) w5) := hid ⟨⟨cc + 1, hT5, by have := hcc.out; omega, by have := putP_len L3 (nvK l s i k q); have := hlc.out; omega⟩, hI5.out.g.andThen hg5 (fun j e => .inr e)⟩
        clear hT5 hg5 p0 p1 p2 p3
        go_wp2_with fail
        go_roundw
        case rel => exact ⟨q + 1, by omega, by go_num, by rw [hst2.out]; exact hI6⟩
        case measure => simp [intOf]; omega
       ·rw [if_neg hV0] at hst2
        go_wp2_with fail
        go_roundw
        case rel => exact ⟨q + 1, by omega, by go_num, by rw [hst2.out]; exact hid (hI5.out.le (by omega))⟩
        case measure => simp [intOf]; omega
      ·have hqk : q = 2 := by omega
       subst hqk
       have hI4 : Hid (MapI wo b (N2 l u c s i (k + 1) (N1 l u c s i)) (i * 16 + (k + 1) * 2) wr) := hid (hgp.out.then (hI3.out.le (by omega)))
       go_wp2_with fail
       go_roundw
       case rel => exact ⟨k + 1, by omega, by go_num, hI4⟩
       case measure => simp [intOf]; omega
    ·have hki : k = i := by omega
     subst hki
     have hI4 : Hid (MapI w0 b (N1 l u c s (k + 1)) ((k + 1) * 16) wr) := hid ((hI.out.ext (show Ext _ wo from hxo.out)).then (hI2.out.le (by omega)))
     go_wp2_with fail
     go_roundw
     case rel => exact ⟨k + 1, by omega, by go_num, hI4⟩
     case measure => simp [intOf]; omega
  ·have hil2 : i = l.length + 2 := by omega
   subst hil2
   obtain ⟨cc, hTM, _, _⟩ := hI.out.m
   have hk := hid (keep_any l hV.out u c s D b cc _ (N1_ok hV.out u c s _).good wB wr xr.out (Nat.le_of_eq hb.out) (hP.out.ext xB.out) hTM)
   go_wp2_with fail
   refine hk.out.mono ?_; rintro e w2 ⟨rfl, hg2, kk, hTk, hpk⟩
   have hg2 := hid hg2
   have hTk := hid hTk
   have hpk := hid hpk
   clear hk hTM
   go_wp2_with fail
   refine (ordered_any (some b) w2).mono ?_; rintro e w3 ⟨rfl, rfl⟩
   go_wp2_with fail
   go_ret
   obtain ⟨mo, hmo, hmc⟩ := hTk.out.isMap
   have x23 : Ext w2 (w2.alloc (.cells #[.map (some b)] 133)) := exE
   have xB2 : Ext wB w2 := Ext.grown xr.out hg2.out (fun j e => by cases e; exact Nat.le_of_eq hb.out)
   exact ⟨w2.heap.size, b, cc, mo, kk, rfl, ⟨x23.heap hmo, by simp [go_sem]⟩, fun W hW => hTk.out.same (by rw [hW, hmo]), hpk.out, (xB.out.trans xB2).trans x23⟩
attribute [local go_sem] Oper.semAt_some
def nvL (l : List Met) (u c : Int) (s : Bool) : PL := (N1 l u c s (l.length + 2)).filter fun p => gdP l s p.1
def nvX (l : List Met) (u c : Int) (s : Bool) : List Int := if chkB l u c = 0 then (match nvL l u c s with | [] => [0, 0, 0, 0] | p :: _ => p.1) else [0, 0, 0, 0]
def nvEr (l : List Met) (u c : Int) (s : Bool) : Int := if chkB l u c = 0 then (match nvL l u c s with | [] => 5 | _ :: _ => 0) else chkB l u c
structure Bx5 (w : World) (A B : Nat) (x : List Int) (e : Int) : Prop where
 c0 : w.cell? ⟨A, 0, none⟩ = some (.int .i64 (nth x 0))
 c1 : w.cell? ⟨A, 1, none⟩ = some (.int .i64 (nth x 1))
 c2 : w.cell? ⟨A, 2, none⟩ = some (.int .i64 (nth x 2))
 c3 : w.cell? ⟨A, 3, none⟩ = some (.int .i64 (nth x 3))
 c4 : w.cell? ⟨B, 0, none⟩ = some (.int .i64 e)
 f0 : w.frozen? ⟨A, 0, none⟩ = false
 f1 : w.frozen? ⟨A, 1, none⟩ = false
 f2 : w.frozen? ⟨A, 2, none⟩ = false
 f3 : w.frozen? ⟨A, 3, none⟩ = false
 f4 : w.frozen? ⟨B, 0, none⟩ = false
theorem Bx5.kn {w w' : World} {A B q : Nat} {x : List Int} {e : Int} (h : Bx5 w A B x e) (k : KN q w w') : Bx5 w' A B x e :=
 ⟨k.cell h.c0, k.cell h.c1, k.cell h.c2, k.cell h.c3, k.cell h.c4, (k.frozen h.c0).trans h.f0, (k.frozen h.c1).trans h.f1, (k.frozen h.c2).trans h.f2, (k.frozen h.c3).trans h.f3, (k.frozen h.c4).trans h.f4⟩
theorem Bx5.ext {w w' : World} {A B : Nat} {x : List Int} {e : Int} (h : Bx5 w A B x e) (k : Ext w w') : Bx5 w' A B x e := h.kn (.of_ext (B := 0) k)
def kv5 (x : List Int) (e : Int) : Value := .tuple #[kv x, .int .i64 e]
theorem nvL_len {l : List Met} (v : VldM l) (u c : Int) (s : Bool) : (nvL l u c s).length ≤ 100000 := by
 have h3 : ∀ (i k q : Nat) (L : PL), (N3 l u c s i k q L).length ≤ L.length + q := fun i k q => by
  induction q with
  | zero => intro L; simp [N3]
  | succ q ih =>
   intro L
   have := ih L
   simp only [N3, stN]
   split
   ·have := putP_len (N3 l u c s i k q L) (nvK l s i k q); omega
   ·omega
 have h2 : ∀ (i k : Nat) (L : PL), (N2 l u c s i k L).length ≤ L.length + 2 * k := fun i k => by
  induction k with
  | zero => intro L; simp [N2]
  | succ k ih => intro L; have := ih L; have := h3 i k 2 (N2 l u c s i k L); simp only [N2]; omega
 have h1 : ∀ i, i ≤ 100 → (N1 l u c s i).length ≤ 200 * i := fun i => by
  induction i with
  | zero => intro _; simp [N1]
  | succ i ih => intro hi; have := ih (by omega); have := h2 i i (N1 l u c s i); simp only [N1]; omega
 have := h1 (l.length + 2) (by have := v.n6; omega)
 have := v.n6
 have := List.length_filter_le (fun p => gdP l s p.1) (N1 l u c s (l.length + 2))
 unfold nvL
 omega
theorem kf_refl (B : Nat) (W : World) : KeepsFrom B W W := ⟨Nat.le_refl _, fun _ _ _ h _ => h⟩
theorem kf_set {B : Nat} {W W' : World} (h : KeepsFrom B W W') (p : Addr) (v : Value) (hb : p.block < B) : KeepsFrom B W (W'.setCell p v) := by
 have k : KeepsFrom B W' (W'.setCell p v) := (KZ.set (Z := fun _ => False) p v hb).keeps
 exact ⟨Nat.le_trans h.size k.size, fun j o hj ho hc => k.same j o hj (h.same j o hj ho hc) hc⟩
theorem name_c2 {F : Fence} {n : Nat} {P : Program} {f : Nat} {args : Array Value} {w : World} {R : Ending → World → Prop} {X : Prop} (h : ∀ w0, w0 = w → X ∧ CallsIn F n P f args w0 R) : X ∧ CallsIn F n P f args w R := h _ rfl
set_option maxHeartbeats 4000000 in
theorem never_any (l : List Met) (q : FitM l) (hl : l.length ≤ 1000) (a : Option Addr) (cap : Nat) (u c : Int) (iu : I64 u) (ic : I64 c) (s : Bool) (w : World) (hM : Mts w a l) :
 Calls Try.prog 36 #[.slice a l.length cap, (.agg #[.int .i64 (u), .int .i64 (c)]), .bool s] w fun e w' => e = .returned (kv5 (nvX l u c s) (nvEr l u c s)) ∧ Ext w w' := by
 have ho := hid (fun W (x : Ext w W) => open_any l q hl a cap u c iu ic s W (hM.ext x))
 have hX : Hid (nvX l u c s = if chkB l u c = 0 then (match nvL l u c s with | [] => [0, 0, 0, 0] | p :: _ => p.1) else [0, 0, 0, 0]) := hid rfl
 have hEr : Hid (nvEr l u c s = if chkB l u c = 0 then (match nvL l u c s with | [] => 5 | _ :: _ => 0) else chkB l u c) := hid rfl
 clear q hM
 refine (callsIn_wide (n := 9)).1 ?_
 refine callsIn_of_wp_marks Try.func36 rfl trivial ?_ rfl
 simp only [Try.ntmps36, List.size_toArray, List.length_cons, List.length_nil, Nat.reduceAdd, Nat.reduceSub, Array.replicate_succ, Array.replicate_zero, List.push_toArray, List.append_toArray, List.nil_append, List.cons_append]
 gi_wp2_with fail
 refine name_c2 (fun w0 hw0 => ?_)
 have x0 := hid (show Ext w w0 by rw [hw0]; exact exE)
 have rb := hid (show Bx5 w0 (w.heap.size + 1) (w.heap.size + 2) [0, 0, 0, 0] 0 from ⟨by rw [hw0]; simp [go_sem]; rfl, by rw [hw0]; simp [go_sem]; rfl, by rw [hw0]; simp [go_sem]; rfl, by rw [hw0]; simp [go_sem]; rfl, by rw [hw0]; simp [go_sem], by rw [hw0]; simp [go_sem], by rw [hw0]; simp [go_sem], by rw [hw0]; simp [go_sem], by rw [hw0]; simp [go_sem], by rw [hw0]; simp [go_sem]⟩)
 clear hw0
 refine ⟨trivial, (callsIn_wide.2 (ho.out _ x0.out)).mono ?_⟩
 rintro e w1 (⟨hch, D, rfl, hP, hE⟩ | ⟨hch, rfl, hE⟩)
 ·have X1 := hid (x0.out.trans hE)
  have rb := rb.out.ext hE
  have hv := hid (chkB_ok hch)
  rw [if_pos hch] at hX hEr
  have hP := hid hP
  have l1 := hid (show w.heap.size + 2 < w1.heap.size from cell_lt rb.c4)
  have rb := hid rb
  have hnv := hid (fun W (x : Ext w1 W) => nevers_any l hv.out.1 u c hv.out.2.1 hv.out.2.2 s D W (hP.out.ext x))
  change Hid (∀ W, Ext w1 W → Calls Try.prog 79 #[(.pointer (some ⟨D, 0, none⟩))] W (RetMap (nvL l u c s) W)) at hnv
  have hM : Hid (Asc (nvL l u c s)) := hid ((N1_ok hv.out.1 u c s _).asc _)
  have hM9 : Hid ((nvL l u c s).length ≤ 100000) := hid (nvL_len hv.out.1 u c s)
  obtain ⟨M, hMe⟩ : ∃ M, nvL l u c s = M := ⟨_, rfl⟩
  rw [hMe] at hnv hM hM9 hX hEr
  clear hE ho hMe hch
  gi_wp2_with fail
  refine ⟨trivial, (callsIn_wide.2 (hnv.out _ exE)).mono ?_⟩
  rintro e w2 ⟨bx, b, cc, mo, k, rfl, hof, hTm, hkM, hE2⟩
  have x12 : Ext w1 w2 := exE
  have X2 := hid (X1.out.trans x12)
  have rb := hid (rb.out.ext x12)
  have l2 := hid (Nat.lt_of_lt_of_le l1.out x12.size)
  have hof := hid hof
  clear hE2 hnv
  gi_wp2_with fail
  have hk0 : KN w2.heap.size w2 w2 := KN.refl _ _
  refine range_yieldsZ (F := Fence.wide) (n := 9) rfl (by omega) (gf := 108) (lb := #[(.pointer (some ⟨bx, 0, none⟩))]) rfl trivial (enters_of Try.func108 (by kernel_rfl) rfl)
   (ordered1_yields b cc bx mo k M hkM hM.out hM9.out hTm 8) (fun _ => rfl) (fun pre Z W => pre = [] ∧ (∀ k, ¬ Z k) ∧ KN w2.heap.size w2 W)
   (fun c pre W => c = .ret ∧ ∃ x, pre = [x] ∧ [x] <+: M.map Prod.fst ∧ Bx5 W (w.heap.size + 1) (w.heap.size + 2) x 0 ∧ Ext w W) ?st ?nd ?zz ?stx ⟨rfl, fun _ h => h, hk0⟩ ?round ?done ?stop
  case st => exact fun pre Z A C h k => ⟨h.1, h.2.1, h.2.2.trans k⟩
  case nd => exact fun pre Z A h => ⟨h.2.2.same _ _ hof.out.m (.inl (lt_of_heap hof.out.m)), h.2.2.cell hof.out.c⟩
  case zz => exact fun pre Z A h k hz => (h.2.1 k hz).elim
  case stx => exact fun c pre A C h k => ⟨h.1, let ⟨x, h1, h2, h3, h4⟩ := h.2; ⟨x, h1, h2, h3.kn k, k.ext h4 X2.out.size⟩⟩
  case round =>
   rintro l2 pre Z x Wr hG ⟨rfl, hZ, hk⟩ hl2 ⟨rr, hLp⟩ hsz
   subst hl2
   simp only [encP, kv]
   have hG : Hid ([x] <+: M.map Prod.fst) := hid hG
   have hLp := hid hLp
   have hkk := hid hk
   clear hk
   gi_wp2_with fail
   refine ⟨KZ.of_ext exE, fun o => ?_⟩
   obtain ⟨Wa, hWa⟩ : ∃ Wa, Wa = Wr.alloc (.cells #[.int .i64 (nth x 0), .int .i64 (nth x 1), .int .i64 (nth x 2), .int .i64 (nth x 3)] 45) := ⟨_, rfl⟩
   have xa : Ext Wr Wa := by rw [hWa]; exact exE
   have za : Wa.heap.size = Wr.heap.size + 1 := by rw [hWa]; simp
   have d0 : Wa.cell? ⟨Wr.heap.size, 0, none⟩ = some (.int .i64 (nth x 0)) := by rw [hWa]; simp [go_sem]
   have d1 : Wa.cell? ⟨Wr.heap.size, 1, none⟩ = some (.int .i64 (nth x 1)) := by rw [hWa]; simp [go_sem]
   have d2 : Wa.cell? ⟨Wr.heap.size, 2, none⟩ = some (.int .i64 (nth x 2)) := by rw [hWa]; simp [go_sem]
   have d3 : Wa.cell? ⟨Wr.heap.size, 3, none⟩ = some (.int .i64 (nth x 3)) := by rw [hWa]; simp [go_sem]
   obtain ⟨Wb, hWb⟩ : ∃ Wb, Wb = Wa.putObj (w2.heap.size + 1) o := ⟨_, rfl⟩
   have kn : KN w2.heap.size Wa Wb := by rw [hWb]; exact KN.put _ (by omega) (fun o ho => by rw [xa.heap hLp.out] at ho; cases ho; rfl)
   rw [← hWa, ← hWb]
   replace d0 := kn.cell d0
   replace d1 := kn.cell d1
   replace d2 := kn.cell d2
   replace d3 := kn.cell d3
   have kb : KN w2.heap.size w2 Wb := (hkk.out.trans (.of_ext xa)).trans kn
   have rbb := rb.out.kn kb
   have xb := hid (kb.ext X2.out X2.out.size)
   have lb := hid (Nat.lt_of_lt_of_le l2.out kb.size)
   have hl2 := hid (show w.heap.size + 2 < w2.heap.size from l2.out)
   have hne : w.heap.size + 2 < Wr.heap.size := by have := l2.out; omega
   obtain ⟨c0, c1, c2, c3, c4, f0, f1, f2, f3, f4⟩ := rbb
   clear hWa hWb kn kb xa za hLp hsz hkk
   obtain ⟨Bq, hBq⟩ : ∃ B, Wr.heap.size = B := ⟨_, rfl⟩
   rw [hBq] at d0 d1 d2 d3 hne ⊢
   replace hBq := hid hBq
   gi_wp2_with fail
   refine ⟨?_, rfl, x, rfl, hG.out, ⟨by simp [go_sem, *], by simp [go_sem, *], by simp [go_sem, *], by simp [go_sem, *], by simp [go_sem, *], by simp [go_sem, World.frozen?_setCell, f0], by simp [go_sem, World.frozen?_setCell, f1], by simp [go_sem, World.frozen?_setCell, f2], by simp [go_sem, World.frozen?_setCell, f3], by simp [go_sem, World.frozen?_setCell, f4]⟩, by have := xb.out; exact exE⟩
   have hb := hl2.out
   exact kf_set (kf_set (kf_set (kf_set (kf_set (kf_refl _ _) _ _ (by dsimp only; omega)) _ _ (by dsimp only; omega)) _ _ (by dsimp only; omega)) _ _ (by dsimp only; omega)) _ _ (by dsimp only; omega)
  case done =>
   rintro L xs Z Wd hD hS ⟨hx0, hZ, hk⟩ hsz hK
   subst hD
   have hMe : M = [] := by rw [hx0] at hS; exact List.map_eq_nil_iff.1 hS.symm
   subst hMe
   have kn : KN w2.heap.size Wd (Wd.putObj w2.heap.size (.deferred none)) := KN.put _ (Nat.le_refl _) (fun o ho => by rw [hK] at ho; cases ho; rfl)
   have hKK := hid hK
   have xd := hid (hk.ext X2.out X2.out.size)
   have rbb := rb.out.kn hk
   obtain ⟨c0, c1, c2, c3, c4, f0, f1, f2, f3, f4⟩ := rbb
   have z0 := cell_lt c0
   have z4 := cell_lt c4
   dsimp only at z0 z4
   clear hK hk kn hZ
   gi_wp2_with fail
   obtain ⟨We, hWe⟩ : ∃ We, We = ((((Wd.setCell ⟨w.heap.size + 1, 0, none⟩ (.int .i64 0)).setCell ⟨w.heap.size + 1, 1, none⟩ (.int .i64 0)).setCell ⟨w.heap.size + 1, 2, none⟩ (.int .i64 0)).setCell ⟨w.heap.size + 1, 3, none⟩ (.int .i64 0)).setCell ⟨w.heap.size + 1 + 1, 0, none⟩ (.int .i64 5) := ⟨_, rfl⟩
   have hb := l2.out
   have hKe : We.heap[w2.heap.size]? = some (.deferred (some [])) := by
    rw [hWe, Below.heap_setCell _ _ _ _ (by dsimp only; omega), Below.heap_setCell _ _ _ _ (by dsimp only; omega), Below.heap_setCell _ _ _ _ (by dsimp only; omega), Below.heap_setCell _ _ _ _ (by dsimp only; omega), Below.heap_setCell _ _ _ _ (by dsimp only; omega)]
    exact hKK.out
   have be : Bx5 We (w.heap.size + 1) (w.heap.size + 2) [0, 0, 0, 0] 5 := by
    rw [hWe]
    exact ⟨by simp [go_sem, nth, *], by simp [go_sem, nth, *], by simp [go_sem, nth, *], by simp [go_sem, nth, *], by simp [go_sem, *], by simp [go_sem, World.frozen?_setCell, f0], by simp [go_sem, World.frozen?_setCell, f1], by simp [go_sem, World.frozen?_setCell, f2], by simp [go_sem, World.frozen?_setCell, f3], by simp [go_sem, World.frozen?_setCell, f4]⟩
   have xe2 : Ext w We := by rw [hWe]; have := xd.out; exact exE
   have kn2 : KN w2.heap.size We (We.putObj w2.heap.size (.deferred none)) := KN.put _ (Nat.le_refl _) (fun o ho => by rw [hKe] at ho; cases ho; rfl)
   have be2 := be.kn kn2
   have xe3 := kn2.ext xe2 X2.out.size
   rw [← hWe]
   clear hWe c0 c1 c2 c3 c4 f0 f1 f2 f3 f4 z0 z4 be
   obtain ⟨c0, c1, c2, c3, c4, f0, f1, f2, f3, f4⟩ := be2
   simp only [nth, List.getD_cons_zero, List.getD_cons_succ] at c0 c1 c2 c3
   refine ⟨by simp, .inl ⟨_, _, rfl, run_takeDeferred hKe, ?_⟩⟩
   exact ⟨kv5 [0, 0, 0, 0] 5, by simp [results, Try.results36, go_sem, kv5, kv, nth, *], by rw [hX.out, hEr.out], xe3⟩
  case stop =>
   rintro L cd pre Wd hD hS ⟨rfl, x, rfl, hpre, hbx, hx⟩ hK
   subst hD
   have hKK := hid hK
   obtain ⟨p, M', rfl⟩ : ∃ p M', M = p :: M' := by
    cases M with
    | nil => simp at hpre
    | cons p M' => exact ⟨p, M', rfl⟩
   have hxe : x = p.1 := by obtain ⟨t, ht⟩ := hpre; simpa using (List.cons.inj ht).1
   subst hxe
   have kn : KN w2.heap.size Wd (Wd.putObj w2.heap.size (.deferred none)) := KN.put _ (Nat.le_refl _) (fun o ho => by rw [hK] at ho; cases ho; rfl)
   have xe := hid (kn.ext hx X2.out.size)
   have rbb := hbx.kn kn
   gi_wp2_with fail
   obtain ⟨c0, c1, c2, c3, c4, f0, f1, f2, f3, f4⟩ := rbb
   refine ⟨by simp, .inl ⟨_, _, rfl, run_takeDeferred hKK.out, ?_⟩⟩
   exact ⟨kv5 p.1 0, by simp [results, Try.results36, go_sem, kv5, kv, *], by rw [hX.out, hEr.out], xe.out⟩
 ·have X1 := hid (x0.out.trans hE)
  have rb := rb.out.ext hE
  obtain ⟨c0, c1, c2, c3, c4, f0, f1, f2, f3, f4⟩ := rb
  have z0 := cell_lt c0
  have z4 := cell_lt c4
  have g1 : (chkB l u c != 0) = true := by simpa using hch
  rw [if_neg hch] at hX hEr
  replace hch := hid hch
  clear hE ho
  gi_wp2_with fail
  exact ⟨kv5 [0, 0, 0, 0] (chkB l u c), by simp [results, Try.results36, go_sem, kv5, kv, nth, *], by rw [hX.out, hEr.out], by have := X1.out; exact exE⟩
end Go.Proofs.Ytpnfhcnnodolbaa
namespace Go.Proofs.Ytpnfhcnnodolbaa
open Go Go.RowKit Game
structure OkR (a b : Int) : Prop where
 n0 : 0 ≤ a
 n1 : a ≤ 100000000000
 d0 : 1 ≤ b
 d1 : b ≤ 60000000
theorem OkR.mul {a b c d : Int} (h : OkR a b) (k : OkR c d) : I64 (a * d) := mul_i64 (A := 100000000000) (B := 60000000) h.n0 h.n1 (by have := k.d0; omega) k.d1 (by decide) (by decide)
set_option maxHeartbeats 400000 in
theorem share1_any (a b c d : Int) (h : OkR a b) (k : OkR c d) (w : World) :
 Calls Try.prog 82 #[(.agg #[.int .i64 (a), .int .i64 (b)]), (.agg #[.int .i64 (c), .int .i64 (d)])] w fun e w' => e = .returned (.bool (lessB c d a b)) ∧ Ext w w' := by
 have k1 := hid (fun W => less_any c d a b (k.mul h) (h.mul k) W)
 clear h k
 go_enter Try.func82, Try.ntmps82
 go_wp2_with fail
 refine (k1.out _).mono ?_; rintro e w2 ⟨rfl, hE⟩
 have x : Ext w w2 := exE
 go_wp2_with fail
 go_ret
 exact ⟨rfl, x⟩
def rtV (p q : Nat → Int) (i r : Nat) : Value := .int .i64 (if r = 0 then p i else q i)
set_option maxHeartbeats 4000000 in
theorem bestLo_any (p q : Nat → Int) (n : Nat) (hok : ∀ i, i < n → OkR (p i) (q i)) (h0 : 0 < n) (h9 : n ≤ 1000000) (a : Option Addr) (cap : Nat) (hcap : n ≤ cap) (hcm : cap ≤ 9223372036854775807) (w : World) (hE : Els w a 2 (rtV p q) n) :
 Calls Try.prog 84 #[.slice a n cap, .func (.func 83) #[] #[]] w fun e w' => e = .returned ((.agg #[.int .i64 (p (bstN (fun i j => lessB (p i) (q i) (p j) (q j)) (n - 1))), .int .i64 (q (bstN (fun i j => lessB (p i) (q i) (p j) (q j)) (n - 1)))])) ∧ Ext w w' := by
 obtain ⟨g, off, rfl, hb, hc⟩ := hE.at h0 (by decide)
 have hc0 : Hid (∀ i, i < n → w.cell? ⟨g, off + i * 2, none⟩ = some (.int .i64 (p i))) := hid fun i hi => by have := hc i hi 0 (by decide); simpa [rtV] using this
 have hc1 : Hid (∀ i, i < n → w.cell? ⟨g, off + i * 2 + 1, none⟩ = some (.int .i64 (q i))) := hid fun i hi => by have := hc i hi 1 (by decide); simpa [rtV] using this
 have hlt2 : Hid (∀ i j, i < n → j < n → ∀ W, Calls Try.prog 83 #[(.agg #[.int .i64 (p i), .int .i64 (q i)]), (.agg #[.int .i64 (p j), .int .i64 (q j)])] W fun e w' => e = .returned (.bool (lessB (p i) (q i) (p j) (q j))) ∧ Ext W w') := hid fun i j hi hj W => less_any _ _ _ _ ((hok i hi).mul (hok j hj)) ((hok j hj).mul (hok i hi)) W
 obtain ⟨lt, hlte⟩ : ∃ lt : Nat → Nat → Bool, (fun i j => lessB (p i) (q i) (p j) (q j)) = lt := ⟨_, rfl⟩
 have hlt2 : Hid (∀ i j, i < n → j < n → ∀ W, Calls Try.prog 83 #[(.agg #[.int .i64 (p i), .int .i64 (q i)]), (.agg #[.int .i64 (p j), .int .i64 (q j)])] W fun e w' => e = .returned (.bool (lt i j)) ∧ Ext W w') := hid fun i j hi hj W => by rw [← hlte]; exact hlt2.out i j hi hj W
 rw [hlte]
 have hbs : Hid (∀ k, bstN lt (k + 1) = if lt (k + 1) (bstN lt k) = true then k + 1 else bstN lt k) := hid fun k => rfl
 have hbl := hid (fun k => bstN_le lt k)
 have hb0 : Hid (bstN lt 0 = 0) := hid rfl
 obtain ⟨BS, hBS⟩ : ∃ B, bstN lt = B := ⟨_, rfl⟩
 rw [hBS] at hbs hbl hb0 ⊢
 have e0 := hc0.out 0 h0
 have e1 := hc1.out 0 h0
 simp only [Nat.zero_mul, Nat.add_zero] at e0 e1
 clear hE hlte hc hok hBS
 by_cases hc1' : cap = 1
 ·have hn1 : n = 1 := by omega
  subst hn1
  subst hc1'
  go_enter Try.func84, Try.ntmps84
  go_wp2_with fail
  go_loopw [14] (fun i wr => i = .int .i64 0 ∧ Bx2 wr (w.heap.size + 1) (p 0) (q 0) ∧ Hid (Ext w wr) ∧ Bx2 wr w.heap.size 0 0) (fun _ _ => 0)
  case atStart => exact ⟨rfl, ⟨by simp [go_sem], by simp [go_sem], by simp [go_sem], by simp [go_sem]⟩, hid exE, ⟨by simp [go_sem], by simp [go_sem], by simp [go_sem], by simp [go_sem]⟩⟩
  case round =>
   obtain ⟨rfl, ⟨b0, b1, _, _⟩, hw, ⟨z0, z1, f0, f1⟩⟩ := hrel
   have hz := cell_lt z0
   dsimp only at hz
   go_wp2_with fail
   have hx := hw.out
   refine bodyPost_ret (v := (.agg #[.int .i64 (p 0), .int .i64 (q 0)])) (by simp [results, Try.results84, go_sem, *]) rfl ⟨?_, exE⟩
   rw [show BS (1 - 1) = 0 from hb0.out]
 ·go_enter Try.func84, Try.ntmps84
  go_wp2_with fail
  go_loopw [14] (fun i wr => ∃ k : Nat, k + 1 ≤ n ∧ i = .int .i64 k ∧ Bx2 wr (w.heap.size + 1) (p (BS k)) (q (BS k)) ∧ Hid (Ext w wr) ∧ Bx2 wr w.heap.size 0 0) (fun i _ => (n - intOf i).toNat)
  case atStart => exact ⟨0, by omega, rfl, by rw [hb0.out]; exact ⟨by simp [go_sem], by simp [go_sem], by simp [go_sem], by simp [go_sem]⟩, hid exE, ⟨by simp [go_sem], by simp [go_sem], by simp [go_sem], by simp [go_sem]⟩⟩
  case round =>
   obtain ⟨k, hk, rfl, hB5, hw, hB4⟩ := hrel
   obtain ⟨b0, b1, g0, g1⟩ := hB5
   have hl5 := cell_lt b0
   have hz := hB4.lt
   dsimp only at hl5
   replace hB4 := hid hB4
   by_cases hlt : k < n - 1
   ·have q0 := hw.out.cell (hc0.out (k + 1) (by omega))
    have q1 := hw.out.cell (hc1.out (k + 1) (by omega))
    rw [show off + (k + 1) * 2 = off + 2 + k * 2 by omega] at q0 q1
    have hs := hid (hbs.out k)
    have hbk := hbl.out k
    have hcal := hid (fun W => hlt2.out (k + 1) (BS k) (by omega) (by omega) W)
    obtain ⟨bb, hbb⟩ : ∃ z, BS k = z := ⟨_, rfl⟩
    rw [hbb] at hs hcal b0 b1
    have hkI : (k : Int) < (n : Int) - 1 := by omega
    have tk := Go.IntWalk.i64_in ((k : Int) + 1) (by omega)
    clear hbb
    have hB5 : Hid (Bx2 wr (w.heap.size + 1) (p bb) (q bb)) := hid ⟨b0, b1, g0, g1⟩
    cases hg : lt (k + 1) bb with
    | true =>
     rw [hg, if_pos rfl] at hs
     rw [hg] at hcal
     go_wp2_with fail
     refine (hcal.out _).mono ?_; rintro e w2 ⟨rfl, hE⟩
     have x2 : Ext wr w2 := exE
     have q0 := hE.cell (p := ⟨wr.heap.size, 0, none⟩) (v := .int .i64 (p (k + 1))) (by simp [go_sem])
     have q1 := hE.cell (p := ⟨wr.heap.size, 1, none⟩) (v := .int .i64 (q (k + 1))) (by simp [go_sem])
     obtain ⟨b0, b1, g0, g1⟩ := hB5.out.ext x2
     have hl6 := cell_lt b0
     dsimp only at hl6
     have hw2 := hid (hw.out.trans x2)
     have hB4 := hid (hB4.out.ext x2)
     clear hE x2
     go_wp2_with fail
     go_roundw
     case rel =>
      refine ⟨k + 1, by omega, by go_num, ?_, hid (by have := hw2.out; exact exE), ?_⟩
      ·rw [hs.out]; exact ⟨by simp [go_sem, *], by simp [go_sem, *], by simp [go_sem, *], by simp [go_sem, *]⟩
      ·obtain ⟨z0, z1, f0, f1⟩ := hB4.out
       exact ⟨by simp [go_sem, *], by simp [go_sem, *], by simp [go_sem, *], by simp [go_sem, *]⟩
     case measure => simp [intOf]; omega
    | false =>
     rw [hg, if_neg (by decide)] at hs
     rw [hg] at hcal
     go_wp2_with fail
     refine (hcal.out _).mono ?_; rintro e w2 ⟨rfl, hE⟩
     have x2 : Ext wr w2 := exE
     have hB5 := hid (hB5.out.ext x2)
     have hB4 := hid (hB4.out.ext x2)
     have hw2 := hid (hw.out.trans x2)
     clear hE x2
     go_wp2_with fail
     go_roundw
     case rel => exact ⟨k + 1, by omega, by go_num, by rw [hs.out]; exact hB5.out, hw2, hB4.out⟩
     case measure => simp [intOf]; omega
   ·have hr : k = n - 1 := by omega
    have hx := hw.out
    obtain ⟨z0, z1, f0, f1⟩ := hB4.out
    have hz4 := cell_lt z0
    dsimp only at hz4
    have hkr : Hid (BS k = BS (n - 1)) := hid (by rw [hr])
    replace hr := hid hr
    go_wp2_with fail
    refine bodyPost_ret (v := (.agg #[.int .i64 (p (BS k)), .int .i64 (q (BS k))])) (by simp [results, Try.results84, go_sem, *]) rfl ⟨?_, exE⟩
    rw [hkr.out]
set_option maxHeartbeats 4000000 in
theorem bestHi_any (p q : Nat → Int) (n : Nat) (hok : ∀ i, i < n → OkR (p i) (q i)) (h0 : 0 < n) (h9 : n ≤ 1000000) (a : Option Addr) (cap : Nat) (hcap : n ≤ cap) (hcm : cap ≤ 9223372036854775807) (w : World) (hE : Els w a 2 (rtV p q) n) :
 Calls Try.prog 84 #[.slice a n cap, .func (.func 82) #[] #[]] w fun e w' => e = .returned ((.agg #[.int .i64 (p (bstN (fun i j => lessB (p j) (q j) (p i) (q i)) (n - 1))), .int .i64 (q (bstN (fun i j => lessB (p j) (q j) (p i) (q i)) (n - 1)))])) ∧ Ext w w' := by
 obtain ⟨g, off, rfl, hb, hc⟩ := hE.at h0 (by decide)
 have hc0 : Hid (∀ i, i < n → w.cell? ⟨g, off + i * 2, none⟩ = some (.int .i64 (p i))) := hid fun i hi => by have := hc i hi 0 (by decide); simpa [rtV] using this
 have hc1 : Hid (∀ i, i < n → w.cell? ⟨g, off + i * 2 + 1, none⟩ = some (.int .i64 (q i))) := hid fun i hi => by have := hc i hi 1 (by decide); simpa [rtV] using this
 have hlt2 : Hid (∀ i j, i < n → j < n → ∀ W, Calls Try.prog 82 #[(.agg #[.int .i64 (p i), .int .i64 (q i)]), (.agg #[.int .i64 (p j), .int .i64 (q j)])] W fun e w' => e = .returned (.bool (lessB (p j) (q j) (p i) (q i))) ∧ Ext W w') := hid fun i j hi hj W => share1_any _ _ _ _ (hok i hi) (hok j hj) W
 obtain ⟨lt, hlte⟩ : ∃ lt : Nat → Nat → Bool, (fun i j => lessB (p j) (q j) (p i) (q i)) = lt := ⟨_, rfl⟩
 have hlt2 : Hid (∀ i j, i < n → j < n → ∀ W, Calls Try.prog 82 #[(.agg #[.int .i64 (p i), .int .i64 (q i)]), (.agg #[.int .i64 (p j), .int .i64 (q j)])] W fun e w' => e = .returned (.bool (lt i j)) ∧ Ext W w') := hid fun i j hi hj W => by rw [← hlte]; exact hlt2.out i j hi hj W
 rw [hlte]
 have hbs : Hid (∀ k, bstN lt (k + 1) = if lt (k + 1) (bstN lt k) = true then k + 1 else bstN lt k) := hid fun k => rfl
 have hbl := hid (fun k => bstN_le lt k)
 have hb0 : Hid (bstN lt 0 = 0) := hid rfl
 obtain ⟨BS, hBS⟩ : ∃ B, bstN lt = B := ⟨_, rfl⟩
 rw [hBS] at hbs hbl hb0 ⊢
 have e0 := hc0.out 0 h0
 have e1 := hc1.out 0 h0
 simp only [Nat.zero_mul, Nat.add_zero] at e0 e1
 clear hE hlte hc hok hBS
 by_cases hc1' : cap = 1
 ·have hn1 : n = 1 := by omega
  subst hn1
  subst hc1'
  go_enter Try.func84, Try.ntmps84
  go_wp2_with fail
  go_loopw [14] (fun i wr => i = .int .i64 0 ∧ Bx2 wr (w.heap.size + 1) (p 0) (q 0) ∧ Hid (Ext w wr) ∧ Bx2 wr w.heap.size 0 0) (fun _ _ => 0)
  case atStart => exact ⟨rfl, ⟨by simp [go_sem], by simp [go_sem], by simp [go_sem], by simp [go_sem]⟩, hid exE, ⟨by simp [go_sem], by simp [go_sem], by simp [go_sem], by simp [go_sem]⟩⟩
  case round =>
   obtain ⟨rfl, ⟨b0, b1, _, _⟩, hw, ⟨z0, z1, f0, f1⟩⟩ := hrel
   have hz := cell_lt z0
   dsimp only at hz
   go_wp2_with fail
   have hx := hw.out
   refine bodyPost_ret (v := (.agg #[.int .i64 (p 0), .int .i64 (q 0)])) (by simp [results, Try.results84, go_sem, *]) rfl ⟨?_, exE⟩
   rw [show BS (1 - 1) = 0 from hb0.out]
 ·go_enter Try.func84, Try.ntmps84
  go_wp2_with fail
  go_loopw [14] (fun i wr => ∃ k : Nat, k + 1 ≤ n ∧ i = .int .i64 k ∧ Bx2 wr (w.heap.size + 1) (p (BS k)) (q (BS k)) ∧ Hid (Ext w wr) ∧ Bx2 wr w.heap.size 0 0) (fun i _ => (n - intOf i).toNat)
  case atStart => exact ⟨0, by omega, rfl, by rw [hb0.out]; exact ⟨by simp [go_sem], by simp [go_sem], by simp [go_sem], by simp [go_sem]⟩, hid exE, ⟨by simp [go_sem], by simp [go_sem], by simp [go_sem], by simp [go_sem]⟩⟩
  case round =>
   obtain ⟨k, hk, rfl, hB5, hw, hB4⟩ := hrel
   obtain ⟨b0, b1, g0, g1⟩ := hB5
   have hl5 := cell_lt b0
   have hz := hB4.lt
   dsimp only at hl5
   replace hB4 := hid hB4
   by_cases hlt : k < n - 1
   ·have q0 := hw.out.cell (hc0.out (k + 1) (by omega))
    have q1 := hw.out.cell (hc1.out (k + 1) (by omega))
    rw [show off + (k + 1) * 2 = off + 2 + k * 2 by omega] at q0 q1
    have hs := hid (hbs.out k)
    have hbk := hbl.out k
    have hcal := hid (fun W => hlt2.out (k + 1) (BS k) (by omega) (by omega) W)
    obtain ⟨bb, hbb⟩ : ∃ z, BS k = z := ⟨_, rfl⟩
    rw [hbb] at hs hcal b0 b1
    have hkI : (k : Int) < (n : Int) - 1 := by omega
    have tk := Go.IntWalk.i64_in ((k : Int) + 1) (by omega)
    clear hbb
    have hB5 : Hid (Bx2 wr (w.heap.size + 1) (p bb) (q bb)) := hid ⟨b0, b1, g0, g1⟩
    cases hg : lt (k + 1) bb with
    | true =>
     rw [hg, if_pos rfl] at hs
     rw [hg] at hcal
     go_wp2_with fail
     refine (hcal.out _).mono ?_; rintro e w2 ⟨rfl, hE⟩
     have x2 : Ext wr w2 := exE
     have q0 := hE.cell (p := ⟨wr.heap.size, 0, none⟩) (v := .int .i64 (p (k + 1))) (by simp [go_sem])
     have q1 := hE.cell (p := ⟨wr.heap.size, 1, none⟩) (v := .int .i64 (q (k + 1))) (by simp [go_sem])
     obtain ⟨b0, b1, g0, g1⟩ := hB5.out.ext x2
     have hl6 := cell_lt b0
     dsimp only at hl6
     have hw2 := hid (hw.out.trans x2)
     have hB4 := hid (hB4.out.ext x2)
     clear hE x2
     go_wp2_with fail
     go_roundw
     case rel =>
      refine ⟨k + 1, by omega, by go_num, ?_, hid (by have := hw2.out; exact exE), ?_⟩
      ·rw [hs.out]; exact ⟨by simp [go_sem, *], by simp [go_sem, *], by simp [go_sem, *], by simp [go_sem, *]⟩
      ·obtain ⟨z0, z1, f0, f1⟩ := hB4.out
       exact ⟨by simp [go_sem, *], by simp [go_sem, *], by simp [go_sem, *], by simp [go_sem, *]⟩
     case measure => simp [intOf]; omega
    | false =>
     rw [hg, if_neg (by decide)] at hs
     rw [hg] at hcal
     go_wp2_with fail
     refine (hcal.out _).mono ?_; rintro e w2 ⟨rfl, hE⟩
     have x2 : Ext wr w2 := exE
     have hB5 := hid (hB5.out.ext x2)
     have hB4 := hid (hB4.out.ext x2)
     have hw2 := hid (hw.out.trans x2)
     clear hE x2
     go_wp2_with fail
     go_roundw
     case rel => exact ⟨k + 1, by omega, by go_num, by rw [hs.out]; exact hB5.out, hw2, hB4.out⟩
     case measure => simp [intOf]; omega
   ·have hr : k = n - 1 := by omega
    have hx := hw.out
    obtain ⟨z0, z1, f0, f1⟩ := hB4.out
    have hz4 := cell_lt z0
    dsimp only at hz4
    have hkr : Hid (BS k = BS (n - 1)) := hid (by rw [hr])
    replace hr := hid hr
    go_wp2_with fail
    refine bodyPost_ret (v := (.agg #[.int .i64 (p (BS k)), .int .i64 (q (BS k))])) (by simp [results, Try.results84, go_sem, *]) rfl ⟨?_, exE⟩
    rw [hkr.out]
attribute [local go_sem] Oper.semAt_some
def shN (m : Nat) (x : List Int) : Int := ratN (nth x m) (psum x)
def shD (m : Nat) (x : List Int) : Int := ratD (nth x m) (psum x)
def shLo (m : Nat) (L : List (List Int)) : List Int := row L (bstN (fun i j => lessB (shN m (row L i)) (shD m (row L i)) (shN m (row L j)) (shD m (row L j))) (L.length - 1))
def shHi (m : Nat) (L : List (List Int)) : List Int := row L (bstN (fun i j => lessB (shN m (row L j)) (shD m (row L j)) (shN m (row L i)) (shD m (row L i))) (L.length - 1))
def shE (l : List Met) (u c : Int) (s : Bool) (m : Int) : Int :=
 if ¬ chkB l u c = 0 then chkB l u c else if inR 0 ((l.length : Int) - 1) m = false then 2 else if (edP l u c s).length = 0 then 17 else 0
def shX (l : List Met) (u c : Int) (s : Bool) (m : Int) : List Int :=
 if shE l u c s m = 0 then [shN m.toNat (shLo m.toNat (edP l u c s)), shD m.toNat (shLo m.toNat (edP l u c s)), shN m.toNat (shHi m.toNat (edP l u c s)), shD m.toNat (shHi m.toNat (edP l u c s))] else [0, 0, 0, 0]
theorem gb_kn {w A C : World} {r B : Nat} (h : w.grownBy A (some r)) (k : KN B A C) (hb : w.heap.size ≤ B) : w.grownBy C (some r) :=
 ⟨k.os.trans h.os, k.tape.trans h.tape, k.output.trans h.output, Nat.le_trans h.size k.size, fun q hq hne => by
  have h1 := h.block q hq hne
  obtain ⟨o, ho⟩ : ∃ o, w.heap[q]? = some o := ⟨_, Array.getElem?_eq_getElem hq⟩
  rw [ho] at h1 ⊢
  exact k.same q o h1 (.inl (by omega))⟩
def shV (m : Nat) (L : List (List Int)) : Nat → Nat → Value := rtV (fun i => shN m (row L i)) (fun i => shD m (row L i))
theorem elemRat : ElemG Try.prog 29 2 16 := elemG_mk (by kernel_rfl)
structure SI (w3 : World) (X : Nat) (m : Nat) (pre : List Mx) (W : World) : Prop where
 g : w3.grownBy W (some X)
 v : ∃ v, W.cell? ⟨X, 0, none⟩ = some v ∧ OwnG W 0 29 2 v (shV m (lsM pre)) pre.length ∧ v.ownBlock ≠ some X
 f : W.frozen? ⟨X, 0, none⟩ = false
theorem SI.kn {w3 W W' : World} {X m : Nat} {pre : List Mx} {B : Nat} (h : SI w3 X m pre W) (k : KN B W W') (hb : w3.heap.size ≤ B) : SI w3 X m pre W' := by
 obtain ⟨v, h1, h2, h3⟩ := h.v
 exact ⟨gb_kn h.g k hb, ⟨v, k.cell h1, k.owns h2, h3⟩, (k.frozen h1).trans h.f⟩
theorem SI.ext {w3 W W' : World} {X m : Nat} {pre : List Mx} (h : SI w3 X m pre W) (x : Ext W W') : SI w3 X m pre W' := h.kn (.of_ext x) (Nat.le_refl _)
theorem row_snoc_l {L : List (List Int)} {x : List Int} {i : Nat} (h : i < L.length) : row (L ++ [x]) i = row L i := by
 simp [row, List.getD_eq_getElem?_getD, List.getElem?_append_left h]
theorem row_snoc_r {L : List (List Int)} {x : List Int} : row (L ++ [x]) L.length = x := by simp [row, List.getD_eq_getElem?_getD]
theorem shV_left (m : Nat) (L : List (List Int)) (x : List Int) {i : Nat} (h : i < L.length) (r : Nat) : shV m (L ++ [x]) i r = shV m L i r := by
 simp only [shV, rtV, row_snoc_l h]
theorem sh_ok {l : List Met} {x : List Int} (ok : Xok l x) (n6 : l.length ≤ 6) (m : Nat) : OkR (shN m x) (shD m x) := by
 have hp : psum x ≤ 60000000 := by
  have := (sm_bd (n := x.length) (f := nth x) (B := 10000000) fun i _ => ok.prt i).2
  unfold psum
  have := ok.len
  omega
 have hx := ok.prt m
 have hn := ratN_bd ok.pos (a := nth x m) (B := 60000000000) (by omega) (by omega) (by omega)
 have hd := ratD_bd (a := nth x m) ok.pos
 refine ⟨?_, by have := hn.2; unfold shN; omega, hd.1, by have := hd.2; unfold shD; omega⟩
 unfold shN ratN
 exact Int.ediv_nonneg hx.1 (by omega)
theorem region_told_round {P : Program} {ops : Array Oper} {Q : Exit → Act → World → Prop} {id l n : Nat} {a : Act} {w : World} (S : Array Bool → World → Prop) (hm : P.follows .mixedOrders = true) (hd : ops.all noDefer = true) (hQ : ¬ LetsOut Q) (hS : S (Array.replicate ops.size false) w.drew)
 (h : S (Array.replicate ops.size false) w.drew → wpAnyT P .any ops Q S ops.size (Array.replicate ops.size false) a w.drew) : (Code.region id ops true).wpIn (Fence.wide.inRound l) n P Q a w :=
 wpIn_region_any hm (any_round hd hQ _ _ _ _ (wpAny_of_told _ _ _ _ (h hS)))
def calmS (Q : Exit → Act → World → Prop) : Exit → Act → World → Prop
 | .normal, a, w => Q .normal a w
 | .ret, a, w => Q .ret a w
 | _, _, _ => False
theorem calmS_of {Q : Exit → Act → World → Prop} : ∀ e a w, calmS Q e a w → Q e a w := fun e a w h => by
 cases e <;> first | exact h | exact h.elim
theorem el2 {w : World} {b : Nat} {x y : Int} (h0 : w.cell? ⟨b, 0, none⟩ = some (.int .i64 x)) (h1 : w.cell? ⟨b, 1, none⟩ = some (.int .i64 y)) :
 ∀ i, i < 1 → ∀ r, r < 2 → w.cell? ⟨b, 0 + i * 2 + r, none⟩ = some (.int .i64 (if r = 0 then x else y)) := by
 intro i hi r hr
 have e : i = 0 := by omega
 subst e
 match r, hr with
 | 0, _ => simpa using h0
 | 1, _ => simpa using h1
theorem Bx2.kn {w w' : World} {A q : Nat} {x y : Int} (h : Bx2 w A x y) (k : KN q w w') : Bx2 w' A x y :=
 ⟨k.cell h.c0, k.cell h.c1, (k.frozen h.c0).trans h.f0, (k.frozen h.c1).trans h.f1⟩
theorem Bx2.gb {w w' : World} {A X : Nat} {x y : Int} (h : Bx2 w A x y) (g : w.grownBy w' (some X)) (hne : A ≠ X) : Bx2 w' A x y :=
 ⟨g.cell h.c0 (fun e => hne (Option.some.inj e)), g.cell h.c1 (fun e => hne (Option.some.inj e)), (grownBy_frozen g (cell_lt h.c0) (fun e => hne (Option.some.inj e))).trans h.f0, (grownBy_frozen g (cell_lt h.c0) (fun e => hne (Option.some.inj e))).trans h.f1⟩
set_option maxHeartbeats 4000000 in
theorem share_any (l : List Met) (q : FitM l) (hl : l.length ≤ 1000) (a : Option Addr) (cap : Nat) (u c : Int) (iu : I64 u) (ic : I64 c) (s : Bool) (m : Int) (im : I64 m) (w : World) (hM : Mts w a l) :
 Calls Try.prog 40 #[.slice a l.length cap, (.agg #[.int .i64 (u), .int .i64 (c)]), .bool s, .int .i64 m] w fun e w' => e = .returned (.tuple #[.agg #[.int .i64 (nth (shX l u c s m) 0), .int .i64 (nth (shX l u c s m) 1)], .agg #[.int .i64 (nth (shX l u c s m) 2), .int .i64 (nth (shX l u c s m) 3)], .int .i64 (shE l u c s m)]) ∧ Ext w w' := by
 have ho := hid (fun W (x : Ext w W) => open_any l q hl a cap u c iu ic s W (hM.ext x))
 have hno : Hid (∀ E : Int, shE l u c s m = E → ¬ E = 0 → ∀ w', Ext w w' → (Ending.returned (.tuple #[.agg #[.int .i64 (0), .int .i64 (0)], .agg #[.int .i64 (0), .int .i64 (0)], .int .i64 (E)]) = .returned (.tuple #[.agg #[.int .i64 (nth (shX l u c s m) 0), .int .i64 (nth (shX l u c s m) 1)], .agg #[.int .i64 (nth (shX l u c s m) 2), .int .i64 (nth (shX l u c s m) 3)], .int .i64 (shE l u c s m)]) ∧ Ext w w')) := hid fun E h g w' x => by
  have : shX l u c s m = [0, 0, 0, 0] := by unfold shX; rw [h, if_neg g]
  rw [this, h]
  exact ⟨rfl, x⟩
 have hsE : Hid (shE l u c s m = if ¬ chkB l u c = 0 then chkB l u c else if inR 0 ((l.length : Int) - 1) m = false then 2 else if (edP l u c s).length = 0 then 17 else 0) := hid rfl
 clear q hM
 refine (callsIn_wide (n := 9)).1 ?_
 refine callsIn_of_wp_marks Try.func40 rfl trivial ?_ rfl
 simp only [Try.ntmps40, List.size_toArray, List.length_cons, List.length_nil, Nat.reduceAdd, Nat.reduceSub, Array.replicate_succ, Array.replicate_zero, List.push_toArray, List.append_toArray, List.nil_append, List.cons_append]
 gi_wp2_with fail
 refine name_c2 (fun w0 hw0 => ?_)
 have x0 := hid (show Ext w w0 by rw [hw0]; exact exE)
 have p7 := hid (show w0.cell? ⟨w.heap.size + 1, 0, none⟩ = some (.int .i64 m) by rw [hw0]; simp [go_sem])
 have rb := hid (show Bx2 w0 (w.heap.size + 2) 0 0 from by rw [hw0]; exact ⟨by simp [go_sem], by simp [go_sem], by simp [go_sem], by simp [go_sem]⟩)
 have rc := hid (show Bx2 w0 (w.heap.size + 3) 0 0 from by rw [hw0]; exact ⟨by simp [go_sem], by simp [go_sem], by simp [go_sem], by simp [go_sem]⟩)
 clear hw0
 refine ⟨trivial, (callsIn_wide.2 (ho.out _ x0.out)).mono ?_⟩
 rintro e w1 (⟨hch, D, rfl, hP, hE⟩ | ⟨hch, rfl, hE⟩)
 ·have X1 := hid (x0.out.trans hE)
  replace rb := hid (rb.out.ext hE)
  replace rc := hid (rc.out.ext hE)
  replace p7 := hid (hE.cell p7.out)
  have hv := hid (chkB_ok hch)
  have n1 := hv.out.1.n1; have n6 := hv.out.1.n6
  rw [if_neg (show ¬ ¬ chkB l u c = 0 by rw [hch]; decide)] at hsE
  replace hP := hid hP
  have o7 := p7.out
  have hll := Go.IntWalk.i64_in ((l.length : Int) - 1) (by omega)
  have hwi := hid (fun b W hI => within1_any 0 ((l.length : Int) - 1) m b W hI im)
  clear hE ho
  gi_wp2_with fail
  refine ⟨trivial, (callsIn_wide.2 (hwi.out w1.heap.size _ (lit1 (by simp)))).mono ?_⟩
  rintro e w2 ⟨rfl, hE2⟩
  have x12 : Ext w1 w2 := exE
  have X2 := hid (X1.out.trans x12)
  replace rb := hid (rb.out.ext x12)
  replace rc := hid (rc.out.ext x12)
  replace p7 := hid (x12.cell o7)
  replace hP := hid (hP.out.ext x12)
  clear hE2 x12 o7 hll hwi
  cases hin : inR 0 ((l.length : Int) - 1) m with
  | false =>
   rw [if_pos hin] at hsE
   have hfin := hid (hno.out _ hsE.out (by decide))
   obtain ⟨c0, c1, f0, f1⟩ := rb.out
   obtain ⟨d0, d1, g0, g1⟩ := rc.out
   have z0 := cell_lt c0
   have z4 := cell_lt d0
   replace hin := hid hin
   clear hno hsE
   gi_wp2_with fail
   exact ⟨(.tuple #[.agg #[.int .i64 (0), .int .i64 (0)], .agg #[.int .i64 (0), .int .i64 (0)], .int .i64 (2)]), by simp [results, Try.results40, go_sem, *], hfin.out _ (by have := X2.out; exact exE)⟩
  | true =>
   rw [if_neg (by rw [hin]; decide)] at hsE
   obtain ⟨M, rfl⟩ : ∃ M : Nat, m = (M : Int) := ⟨m.toNat, by unfold inR at hin; simp at hin; omega⟩
   have hMl : M < l.length := by unfold inR at hin; simp at hin; omega
   replace hin := hid hin
   gi_wp2_with fail
   refine name_c2 (fun w3 hw3 => ?_)
   have x23 : Ext w2 w3 := by rw [hw3]; exact exE
   have v3 : w3.cell? ⟨w2.heap.size, 0, none⟩ = some (.slice none 0 0) := by rw [hw3]; simp [go_sem]
   have f3 : w3.frozen? ⟨w2.heap.size, 0, none⟩ = false := by rw [hw3]; simp [go_sem]
   clear hw3
   refine ⟨trivial, (callsIn_wide.2 (edges_any D _)).mono ?_⟩
   rintro e w4 ⟨rfl, e0, e1, hE4⟩
   obtain ⟨X, hX⟩ : ∃ X, w2.heap.size = X := ⟨_, rfl⟩
   rw [hX] at v3 f3 ⊢
   have X4 := hid (X2.out.trans (x23.trans hE4))
   have hsX := hid (show w.heap.size + 4 ≤ X by rw [← hX]; exact Nat.succ_le_of_lt rc.out.lt)
   have lX := cell_lt v3
   dsimp only at lX
   replace v3 := hE4.cell v3
   replace f3 := (hE4.frozen lX).trans f3
   replace rb := hid (rb.out.ext (x23.trans hE4))
   replace rc := hid (rc.out.ext (x23.trans hE4))
   replace p7 := hid ((x23.trans hE4).cell p7.out)
   have hP2 := hP
   replace hP := hid (hP.out.ext (x23.trans hE4))
   obtain ⟨am, cm, hd, _⟩ := hP2.out.m
   have hd := hid hd
   have x24 := hid (x23.trans hE4)
   have hx3 := hid (show X < w3.heap.size from lX)
   obtain ⟨B0, hB0⟩ : ∃ B, w3.heap.size = B := ⟨_, rfl⟩
   rw [hB0] at e0 e1 hx3 ⊢
   clear hE4 x23 lX hB0
   have hX := hid hX
   gi_wp2_with fail
   have hI0 : SI w4 X M [] w4 := ⟨(Ext.refl w4).grows.but _, ⟨_, v3, OwnG.nil _ _ _ _ _, by simp [Value.ownBlock]⟩, f3⟩
   have hl4 := hid (show X < w4.heap.size from cell_lt v3)
   refine range_yieldsZ (F := Fence.wide) (n := 9) rfl (by omega) (gf := 103) (lb := #[.pointer (some ⟨B0, 0, none⟩), .pointer (some ⟨B0 + 1, 0, none⟩)]) rfl trivial (enters_of Try.func103 (by kernel_rfl) rfl)
    (edges1_yields l hv.out.1 u c hv.out.2.1 hv.out.2.2 s 0 B0 (B0 + 1) D am cm 8) (fun _ => rfl) (fun pre Z W => (∀ k, ¬ Z k) ∧ SI w4 X M pre W) (fun _ _ _ => False) ?st ?nd ?zz (fun _ _ _ _ h _ => h) ⟨fun _ h => h, hI0⟩ ?round ?done (fun _ _ _ _ _ _ h _ => h.elim)
   case st => exact fun pre Z A C h k => ⟨h.1, h.2.kn k (Nat.le_refl _)⟩
   case nd =>
    intro pre Z A h
    have g := h.2.g
    have hne : ∀ {k : Nat}, k ≠ X → some k ≠ some X := fun h e => h (Option.some.inj e)
    have h2 : Ext w2 A := Ext.grown x24.out g (fun k e => by cases e; exact Nat.le_of_eq hX.out)
    exact ⟨g.cell e0 (hne (by have := hx3.out; dsimp only; omega)), g.cell e1 (hne (by have := hx3.out; dsimp only; omega)), h2.cell hd.out, hP2.out.ext h2, Nat.zero_le _⟩
   case zz => exact fun pre Z A h k hz => (h.1 k hz).elim
   case round =>
    rintro l2 pre Z ⟨g, ml⟩ Wr ⟨hpre, hown, hml, hlo, hnz⟩ ⟨hZ, hI⟩ hl2 ⟨rr, hLp⟩ hsz
    subst hl2
    simp only [encM]
    gi_wp2_with fail
    refine ⟨KZ.refl _ _ _, fun o => ?_⟩
    obtain ⟨Wb, hWb⟩ : ∃ Wb, Wb = Wr.putObj (w4.heap.size + 1) o := ⟨_, rfl⟩
    have kn : KN w4.heap.size Wr Wb := by rw [hWb]; exact KN.put _ (by omega) (fun o ho => by rw [hLp] at ho; cases ho; rfl)
    rw [← hWb]
    have hIb := hI.kn kn (Nat.le_refl _)
    have hownb : OwnI Wb 0 2 (.slice (some ⟨g, 0, none⟩) l.length l.length) ml := kn.owns hown
    have hmem : ml ∈ edP l u c s := by obtain ⟨t, ht⟩ := hpre; rw [← ht]; simp [lsM]
    have ok := (edP_ok hv.out.1 hv.out.2.1 hv.out.2.2 hmem).1
    have hplen : pre.length < 1000000 := by
     have h1 := hpre.length_le
     have := edP_len n6 u c s
     simp [lsM] at h1
     omega
    have gm := (hownb.facts (j := M) (by rw [ok.len]; exact hMl)).1
    have hIm := hid hownb.ints
    have hne7 : some (w.heap.size + 1) ≠ some X := fun e => by have := Option.some.inj e; have := hsX.out; omega
    have p7 := kn.cell (hI.g.cell p7.out hne7)
    obtain ⟨vv, cX, hov, hvn⟩ := hIb.v
    obtain ⟨av, cv, rfl, hcv, hEl⟩ := hov.els
    have fX := hIb.f
    have lX := cell_lt cX
    dsimp only at lX
    have hsm := hid (fun W (x : Ext Wb W) => by have := sum_any ml (fun i => ⟨(ok.prt i).1, by have := (ok.prt i).2; omega⟩) (by rw [ok.len]; omega) (some ⟨g, 0, none⟩) l.length W (hIm.out.ext x); rw [ok.len] at this; exact this)
    have hpb : psum ml ≤ 60000000 := by
     have := (sm_bd (n := ml.length) (f := nth ml) (B := 10000000) fun i _ => ok.prt i).2
     unfold psum
     have := ok.len
     omega
    have hby := hid (fun W => by_any (nth ml M) (psum ml) (by have := ok.prt M; omega) (by have := ok.prt M; omega) ok.pos (by omega) W)
    change Hid (∀ W, Calls Try.prog 60 #[.int .i64 (nth ml M), .int .i64 (psum ml)] W fun e w' => e = .returned (.agg #[.int .i64 (shN M ml), .int .i64 (shD M ml)]) ∧ Ext W w') at hby
    change Hid (∀ W, Ext Wb W → Calls Try.prog 81 #[.slice (some ⟨g, 0, none⟩) l.length l.length] W fun e w' => e = .returned (.int .i64 (psum ml)) ∧ Ext W w') at hsm
    have hIb := hid hIb
    have hov := hid hov
    have hEl := hid hEl
    have hpl2 : (lsM pre).length = pre.length := by simp [lsM]
    have hg1 : Hid (∀ i r, i < pre.length → r < 2 → shV M (lsM (pre ++ [⟨g, ml⟩])) i r = shV M (lsM pre) i r) := hid fun i r hi _ => by rw [lsM_snoc]; exact shV_left M _ _ (by rw [hpl2]; exact hi) r
    have hg2 : Hid (∀ i r, i < 1 → r < 2 → shV M (lsM (pre ++ [⟨g, ml⟩])) (pre.length + i) r = .int .i64 (if r = 0 then shN M ml else shD M ml)) := hid fun i r hi _ => by
     rw [show i = 0 by omega, Nat.add_zero, lsM_snoc, ← hpl2]
     simp only [shV, rtV, row_snoc_r]
    have hlx : (pre ++ [(⟨g, ml⟩ : Mx)]).length = pre.length + 1 := by simp
    replace hlx := hid hlx
    obtain ⟨F', hF'⟩ : ∃ f, shV M (lsM (pre ++ [⟨g, ml⟩])) = f := ⟨_, rfl⟩
    rw [hF'] at hg1 hg2
    replace hF' := hid hF'
    obtain ⟨F, hF⟩ : ∃ f, shV M (lsM pre) = f := ⟨_, rfl⟩
    rw [hF] at hg1 hEl hov
    obtain ⟨n, hn⟩ : ∃ n, pre.length = n := ⟨_, rfl⟩
    rw [hn] at hg1 hg2 hEl hov cX hplen hcv hlx
    obtain ⟨y, hy⟩ : ∃ y, nth ml M = y := ⟨_, rfl⟩
    rw [hy] at gm hby
    obtain ⟨S, hS⟩ : ∃ y, psum ml = y := ⟨_, rfl⟩
    rw [hS] at hsm hby
    have hkn := hid kn
    have hcvm := hid hov.out.capM
    clear hWb kn hown hownb hI hpre hsz hLp ok hmem hpb hF hn hy hS hpl2
    have hnI : (0 : Int) ≤ (n : Int) := by omega
    have hnC : (n : Int) ≤ (cv : Int) := by omega
    have hMI : (M : Int) < (l.length : Int) := by omega
    gi_wp2_with fail
    refine region_told_round (Told 15 15 (fun w' => w'.cell? ⟨X, 0, none⟩ = some (.slice av n cv) ∧ Ext Wb w') (fun _ => True) (fun _ => True)) (by kernel_rfl) (by kernel_rfl) (by rintro ⟨_, _, h⟩; exact h) (Told.all ⟨(show Ext Wb _ from exE).cell cX, exE⟩ trivial trivial) fun hTold => ?_
    (refine wpAnyT_take (i := 0) (oi := _) (v := ?_) rfl (by kernel_rfl) (by kernel_rfl) (by kernel_rfl) (by kernel_rfl) (fun _ _ _ h => h) (Told.a (f := 17) (by kernel_rfl)) (Told.ind (by decide) (by decide)) (Or.inl ⟨by rfl, ?yl⟩) (by assumption) (fun hHeld => ?_); (case yl => ((intro w hSw; (try dsimp only at hSw); obtain ⟨⟨kk0, kk1⟩, _⟩ := hSw; have kk2 := kk1.cell p7; have kk3 := kk1.cell gm; go_simp); with_reducible rfl)); (try clear hTold); rename _ => hTold; (try simp only [sxA, sxB, sxC, Act.put, sxD, sxE, sxF]))
    (refine wpAnyT_take (i := 1) (oi := _) (v := ?_) rfl (by kernel_rfl) (by kernel_rfl) (by kernel_rfl) (by kernel_rfl) (fun _ _ _ h => h) (Told.a (f := 17) (by kernel_rfl)) (Told.ind (by decide) (by decide)) (Or.inl ⟨by rfl, ?yl⟩) (by assumption) (fun hHeld => ?_); (case yl => ((intro w hSw; (try dsimp only at hSw); obtain ⟨⟨kk0, kk1⟩, _⟩ := hSw; have kk2 := kk1.cell p7; have kk3 := kk1.cell gm; go_simp); with_reducible rfl)); (try clear hTold); rename _ => hTold; (try simp only [sxA, sxB, sxC, Act.put, sxD, sxE, sxF]))
    (refine wpAnyT_take (i := 2) (oi := _) (v := ?_) rfl (by kernel_rfl) (by kernel_rfl) (by kernel_rfl) (by kernel_rfl) (fun _ _ _ h => h) (Told.a (f := 17) (by kernel_rfl)) (Told.ind (by decide) (by decide)) (Or.inl ⟨by rfl, ?yl⟩) (by assumption) (fun hHeld => ?_); (case yl => ((intro w hSw; (try dsimp only at hSw); obtain ⟨⟨kk0, kk1⟩, _⟩ := hSw; have kk2 := kk1.cell p7; have kk3 := kk1.cell gm; go_simp); with_reducible rfl)); (try clear hTold); rename _ => hTold; (try simp only [sxA, sxB, sxC, Act.put, sxD, sxE, sxF]))
    (refine wpAnyT_take (i := 3) (oi := _) (v := ?_) rfl (by kernel_rfl) (by kernel_rfl) (by kernel_rfl) (by kernel_rfl) (fun _ _ _ h => h) (Told.a (f := 17) (by kernel_rfl)) (Told.ind (by decide) (by decide)) (Or.inl ⟨by rfl, ?yl⟩) (by assumption) (fun hHeld => ?_); (case yl => ((intro w hSw; (try dsimp only at hSw); obtain ⟨⟨kk0, kk1⟩, _⟩ := hSw; have kk2 := kk1.cell p7; have kk3 := kk1.cell gm; go_simp); with_reducible rfl)); (try clear hTold); rename _ => hTold; (try simp only [sxA, sxB, sxC, Act.put, sxD, sxE, sxF]))
    (refine wpAnyT_take (i := 4) (oi := _) (v := ?_) rfl (by kernel_rfl) (by kernel_rfl) (by kernel_rfl) (by kernel_rfl) (fun _ _ _ h => h) (Told.a (f := 17) (by kernel_rfl)) (Told.ind (by decide) (by decide)) (Or.inl ⟨by rfl, ?yl⟩) (by assumption) (fun hHeld => ?_); (case yl => ((intro w hSw; (try dsimp only at hSw); obtain ⟨⟨kk0, kk1⟩, _⟩ := hSw; have kk2 := kk1.cell p7; have kk3 := kk1.cell gm; go_simp); with_reducible rfl)); (try clear hTold); rename _ => hTold; (try simp only [sxA, sxB, sxC, Act.put, sxD, sxE, sxF]))
    (refine wpAnyT_take (i := 5) (oi := _) (v := ?_) rfl (by kernel_rfl) (by kernel_rfl) (by kernel_rfl) (by kernel_rfl) (fun _ _ _ h => h) (Told.a (f := 17) (by kernel_rfl)) (Told.ind (by decide) (by decide)) (Or.inl ⟨by rfl, ?yl⟩) (by assumption) (fun hHeld => ?_); (case yl => ((intro w hSw; (try dsimp only at hSw); obtain ⟨⟨kk0, kk1⟩, _⟩ := hSw; have kk2 := kk1.cell p7; have kk3 := kk1.cell gm; go_simp); with_reducible rfl)); (try clear hTold); rename _ => hTold; (try simp only [sxA, sxB, sxC, Act.put, sxD, sxE, sxF]))
    (refine wpAnyT_take (i := 6) (oi := _) (v := ?_) rfl (by kernel_rfl) (by kernel_rfl) (by kernel_rfl) (by kernel_rfl) (fun _ _ _ h => h) (Told.a (f := 17) (by kernel_rfl)) (Told.ind (by decide) (by decide)) (Or.inl ⟨by rfl, ?yl⟩) (by assumption) (fun hHeld => ?_); (case yl => ((intro w hSw; (try dsimp only at hSw); obtain ⟨⟨kk0, kk1⟩, _⟩ := hSw; have kk2 := kk1.cell p7; have kk3 := kk1.cell gm; go_simp); with_reducible rfl)); (try clear hTold); rename _ => hTold; (try simp only [sxA, sxB, sxC, Act.put, sxD, sxE, sxF]))
    (refine wpAnyT_take (i := 7) (oi := _) (v := ?_) rfl (by kernel_rfl) (by kernel_rfl) (by kernel_rfl) (by kernel_rfl) (fun _ _ _ h => h) (Told.a (f := 17) (by kernel_rfl)) (Told.ind (by decide) (by decide)) (Or.inl ⟨by rfl, ?yl⟩) (by assumption) (fun hHeld => ?_); (case yl => ((intro w hSw; (try dsimp only at hSw); obtain ⟨⟨kk0, kk1⟩, _⟩ := hSw; have kk2 := kk1.cell p7; have kk3 := kk1.cell gm; go_simp); with_reducible rfl)); (try clear hTold); rename _ => hTold; (try simp only [sxA, sxB, sxC, Act.put, sxD, sxE, sxF]))
    (refine wpAnyT_take (i := 8) (oi := _) (v := ?_) rfl (by kernel_rfl) (by kernel_rfl) (by kernel_rfl) (by kernel_rfl) (fun _ _ _ h => h) (Told.a (f := 17) (by kernel_rfl)) (Told.ind (by decide) (by decide)) (Or.inl ⟨by rfl, ?yl⟩) (by assumption) (fun hHeld => ?_); (case yl => ((intro w hSw; (try dsimp only at hSw); obtain ⟨⟨kk0, kk1⟩, _⟩ := hSw; have kk2 := kk1.cell p7; have kk3 := kk1.cell gm; go_simp); with_reducible rfl)); (try clear hTold); rename _ => hTold; (try simp only [sxA, sxB, sxC, Act.put, sxD, sxE, sxF]))
    (refine wpAnyT_take (i := 9) (oi := _) (v := ?_) rfl (by kernel_rfl) (by kernel_rfl) (by kernel_rfl) (by kernel_rfl) (fun _ _ _ h => h) (Told.a (f := 17) (by kernel_rfl)) (Told.ind (by decide) (by decide)) (Or.inl ⟨by rfl, ?yl⟩) (by assumption) (fun hHeld => ?_); (case yl => ((intro w hSw; (try dsimp only at hSw); obtain ⟨⟨kk0, kk1⟩, _⟩ := hSw; have kk2 := kk1.cell p7; have kk3 := kk1.cell gm; go_simp); with_reducible rfl)); (try clear hTold); rename _ => hTold; (try simp only [sxA, sxB, sxC, Act.put, sxD, sxE, sxF]))
    (refine wpAnyT_take (i := 10) (oi := _) (v := ?_) rfl (by kernel_rfl) (by kernel_rfl) (by kernel_rfl) (by kernel_rfl) (fun _ _ _ h => h) (Told.a (f := 17) (by kernel_rfl)) (Told.ind (by decide) (by decide)) (Or.inl ⟨by rfl, ?yl⟩) (by assumption) (fun hHeld => ?_); (case yl => ((intro w hSw; (try dsimp only at hSw); obtain ⟨⟨kk0, kk1⟩, _⟩ := hSw; have kk2 := kk1.cell p7; have kk3 := kk1.cell gm; go_simp); with_reducible rfl)); (try clear hTold); rename _ => hTold; (try simp only [sxA, sxB, sxC, Act.put, sxD, sxE, sxF]))
    refine wpAnyT_one (i := 11) (o := _) (by kernel_rfl) rfl (fun K hK => ?_)
    go_simp
    refine (hsm.out _ (by exact exE)).mono ?_; rintro e w5 ⟨rfl, hE5⟩
    have x5 : Ext Wb w5 := exE
    refine hK.out _ _ (Told.all ⟨x5.cell cX, x5⟩ trivial trivial) (fun hTold => ?_)
    clear hK K
    try simp only [sxA, sxB, sxC, Act.put, sxD, sxE, sxF]
    refine wpAnyT_one (i := 12) (o := _) (by kernel_rfl) rfl (fun K hK => ?_)
    go_simp
    refine (hby.out _).mono ?_; rintro e w6 ⟨rfl, hE6⟩
    have x6 : Ext Wb w6 := exE
    refine hK.out _ _ (Told.all ⟨x6.cell cX, x6⟩ trivial trivial) (fun hTold => ?_)
    clear hK K
    try simp only [sxA, sxB, sxC, Act.put, sxD, sxE, sxF]
    refine wpAnyT_one (i := 13) (o := _) (by kernel_rfl) rfl (fun K hK => ?_)
    go_simp
    have x7 : Ext Wb (w6.alloc (.cells #[.int .i64 (shN M ml), .int .i64 (shD M ml)] 29)) := exE
    refine hK.out _ _ (Told.all ⟨x7.cell cX, x7⟩ trivial trivial) (fun hTold => ?_)
    clear hK K
    try simp only [sxA, sxB, sxC, Act.put, sxD, sxE, sxF]
    refine wpAnyT_one (i := 14) (o := _) (by kernel_rfl) rfl (fun K hK => ?_)
    rw [if_pos (by rfl)]
    have q0 : (w6.alloc (.cells #[.int .i64 (shN M ml), .int .i64 (shD M ml)] 29)).cell? ⟨w6.heap.size, 0, none⟩ = some (.int .i64 (shN M ml)) := by simp [go_sem]
    have q1 : (w6.alloc (.cells #[.int .i64 (shN M ml), .int .i64 (shD M ml)] 29)).cell? ⟨w6.heap.size, 1, none⟩ = some (.int .i64 (shD M ml)) := by simp [go_sem]
    refine appGF_wp _ _ _ rfl 29 2 16 Try.underlying107 elemRat (by decide) F n av rfl (hEl.out.ext x7) w6.heap.size 0 1 1 (fun _ r => .int .i64 (if r = 0 then shN M ml else shD M ml)) rfl (el2 q0 q1) (by decide) (by omega) (by decide) F' (fun i r h1 h2 => hg1.out i r h1 h2) (fun i r h1 h2 => hg2.out i r h1 h2) ?_
    intro cp9 w9 ho9 hE9
    have x9 : Ext Wb w9 := x7.trans hE9
    have c9 := x9.cell cX
    have f9 := (x9.frozen lX).trans fX
    have hb9 : X ≠ (w6.alloc (.cells #[.int .i64 (shN M ml), .int .i64 (shD M ml)] 29)).heap.size := by have := x7.size; omega
    obtain ⟨b9, hb9e⟩ : ∃ b, (w6.alloc (.cells #[.int .i64 (shN M ml), .int .i64 (shD M ml)] 29)).heap.size = b := ⟨_, rfl⟩
    rw [hb9e] at ho9 hb9 ⊢
    replace hb9e := hid hb9e
    refine hK.out _ _ (Told.all ⟨c9, x9⟩ trivial trivial) (fun hTold => ?_)
    clear hK K
    have z9 := cell_lt c9
    dsimp only at z9
    try simp only [sxA, sxB, sxC, Act.put, sxD, sxE, sxF]
    refine wpAnyT_one (i := 15) (o := _) (by kernel_rfl) rfl (fun K hK => ?_)
    go_simp
    refine hK.out _ _ (Told.past (by kernel_rfl) (by kernel_rfl) trivial) (fun hTold => ?_)
    clear hK K
    refine wpAnyT_done (by kernel_rfl) ?_ _
    clear hTold
    gi_wp2_with fail
    refine ⟨Z, (KZ.of_ext x9).trans (KZ.set _ _ (by have := hl4.out; dsimp only; omega)), hZ, (gb_kn hIb.out.g (.of_ext x9) (Nat.le_refl _)).andThen (grown_set _ _ _) (fun j e => .inr e), ⟨_, cell_put_eq c9, ?_, fun e => hb9 (Option.some.inj e).symm⟩, by rw [World.frozen?_setCell]; exact f9⟩
    rw [hlx.out, hF'.out]
    exact (ho9.mono (Nat.zero_le _)).put (by simp only [Value.ownBlock]; intro e; exact hb9 (Option.some.inj e).symm) _
   case done =>
    rintro L xs Z Wd hD hS ⟨hZ, hI⟩ hsz hK
    subst hD
    have hlen : xs.length = (edP l u c s).length := by rw [← hS]; simp [lsM]
    have hneA : w.heap.size + 2 ≠ X := by have := hsX.out; omega
    have hneB : w.heap.size + 3 ≠ X := by have := hsX.out; omega
    have rA := rb.out.gb hI.g hneA
    have rB := rc.out.gb hI.g hneB
    obtain ⟨vv, cX, hov, hvn⟩ := hI.v
    rw [hS, hlen] at hov
    obtain ⟨av, cv, rfl, hcv, hEl⟩ := hov.els
    have hcvm := hid hov.capM
    have xd := hid (show Ext w Wd from Ext.grown X4.out hI.g (fun r e => by cases e; have := hsX.out; omega))
    have kn : KN w4.heap.size Wd (Wd.putObj w4.heap.size (.deferred none)) := KN.put _ (Nat.le_refl _) (fun o ho => by rw [hK] at ho; cases ho; rfl)
    have hEl := hid hEl
    have hKK := hid hK
    obtain ⟨c0, c1, f0, f1⟩ := rA
    obtain ⟨d0, d1, g0, g1⟩ := rB
    have z0 := cell_lt c0
    have z4 := cell_lt d0
    dsimp only at z0 z4
    clear hI hov hvn hS hlen hZ hK
    by_cases h0 : (edP l u c s).length = 0
    ·rw [if_pos h0] at hsE
     have hfin := hid (hno.out _ hsE.out (by decide))
     have hz : (((edP l u c s).length : Int) == 0) = true := by rw [h0]; rfl
     replace h0 := hid h0
     have hkn := hid kn
     clear kn
     gi_wp2_with fail
     rw [setCell_self c0, setCell_self c1, setCell_self d0, setCell_self d1]
     have k0 := hkn.out.cell c0; have k1 := hkn.out.cell c1; have k2 := hkn.out.cell d0; have k3 := hkn.out.cell d1
     refine ⟨by simp, .inl ⟨_, _, rfl, run_takeDeferred hKK.out, ?_⟩⟩
     exact ⟨(.tuple #[.agg #[.int .i64 (0), .int .i64 (0)], .agg #[.int .i64 (0), .int .i64 (0)], .int .i64 (17)]), by simp [results, Try.results40, go_sem, *], hfin.out _ (hkn.out.ext xd.out X4.out.size)⟩
    ·rw [if_neg h0] at hsE
     have hz : (((edP l u c s).length : Int) == 0) = false := by rw [beq_eq_false_iff_ne]; omega
     have hok : ∀ i, i < (edP l u c s).length → OkR (shN M (row (edP l u c s) i)) (shD M (row (edP l u c s) i)) := fun i hi => sh_ok (edP_ok hv.out.1 hv.out.2.1 hv.out.2.2 (by rw [row_lt hi]; exact List.getElem_mem hi)).1 n6 M
     have hlo := hid (fun W (x : Ext Wd W) => bestLo_any (fun i => shN M (row (edP l u c s) i)) (fun i => shD M (row (edP l u c s) i)) (edP l u c s).length hok (by omega) (edP_len n6 u c s) av cv hcv hcvm.out W (hEl.out.ext x))
     have hhi := hid (fun W (x : Ext Wd W) => bestHi_any (fun i => shN M (row (edP l u c s) i)) (fun i => shD M (row (edP l u c s) i)) (edP l u c s).length hok (by omega) (edP_len n6 u c s) av cv hcv hcvm.out W (hEl.out.ext x))
     change Hid (∀ W, Ext Wd W → Calls Try.prog 84 #[.slice av (edP l u c s).length cv, .func (.func 83) #[] #[]] W fun e w' => e = .returned (.agg #[.int .i64 (shN M (shLo M (edP l u c s))), .int .i64 (shD M (shLo M (edP l u c s)))]) ∧ Ext W w') at hlo
     change Hid (∀ W, Ext Wd W → Calls Try.prog 84 #[.slice av (edP l u c s).length cv, .func (.func 82) #[] #[]] W fun e w' => e = .returned (.agg #[.int .i64 (shN M (shHi M (edP l u c s))), .int .i64 (shD M (shHi M (edP l u c s)))]) ∧ Ext W w') at hhi
     have hfin : Hid (∀ w', Ext w w' → (Ending.returned (.tuple #[.agg #[.int .i64 (shN M (shLo M (edP l u c s))), .int .i64 (shD M (shLo M (edP l u c s)))], .agg #[.int .i64 (shN M (shHi M (edP l u c s))), .int .i64 (shD M (shHi M (edP l u c s)))], .int .i64 (0)]) = .returned (.tuple #[.agg #[.int .i64 (nth (shX l u c s (M : Int)) 0), .int .i64 (nth (shX l u c s (M : Int)) 1)], .agg #[.int .i64 (nth (shX l u c s (M : Int)) 2), .int .i64 (nth (shX l u c s (M : Int)) 3)], .int .i64 (shE l u c s (M : Int))]) ∧ Ext w w')) := hid fun w' x => by
      have : shX l u c s (M : Int) = [shN M (shLo M (edP l u c s)), shD M (shLo M (edP l u c s)), shN M (shHi M (edP l u c s)), shD M (shHi M (edP l u c s))] := by unfold shX; rw [hsE.out, if_pos rfl]; rfl
      rw [this, hsE.out]
      exact ⟨rfl, x⟩
     obtain ⟨N1, hN1⟩ : ∃ z, shN M (shLo M (edP l u c s)) = z := ⟨_, rfl⟩
     obtain ⟨N2, hN2⟩ : ∃ z, shN M (shHi M (edP l u c s)) = z := ⟨_, rfl⟩
     obtain ⟨D1, hD1⟩ : ∃ z, shD M (shLo M (edP l u c s)) = z := ⟨_, rfl⟩
     obtain ⟨D2, hD2⟩ : ∃ z, shD M (shHi M (edP l u c s)) = z := ⟨_, rfl⟩
     rw [hN1, hD1] at hlo hfin
     rw [hN2, hD2] at hhi hfin
     replace h0 := hid h0
     have hkn := hid kn
     clear kn hok hN1 hN2 hD1 hD2 hno hsE
     gi_wp2_with fail
     refine wpIn_wide.2 ?_
     refine wp_mono (Q := calmS _) ?_ calmS_of
     refine wp_region_held_drew (S := fun w' => Ext w w' ∧ w'.cell? ⟨X, 0, none⟩ = some (.slice av (edP l u c s).length cv) ∧ w'.heap[w4.heap.size]? = some (.deferred (some []))) (by kernel_rfl) ⟨by have := xd.out; exact exE, (show Ext Wd _ from exE).cell cX, (show Ext Wd _ from exE).heap hKK.out⟩ fun hHeld => ?_
     (refine tkA (i := 0) (v := ?_) rfl (fun _ _ _ h => h) (Or.inl ⟨by rfl, ?yl⟩) (by assumption) ?_; (case yl => ((intro w hSw; (try dsimp only at hSw); obtain ⟨_, kk0, _⟩ := hSw; go_simp); with_reducible rfl)); (try simp only [sxA, sxB, sxC, Act.put, sxD, sxE, sxF]))
     (refine tkA (i := 2) (v := ?_) rfl (fun _ _ _ h => h) (Or.inl ⟨by rfl, ?yl⟩) (by assumption) ?_; (case yl => ((intro w hSw; (try dsimp only at hSw); obtain ⟨_, kk0, _⟩ := hSw; go_simp); with_reducible rfl)); (try simp only [sxA, sxB, sxC, Act.put, sxD, sxE, sxF]))
     (refine tkA (i := 3) (v := ?_) rfl (fun _ _ _ h => h) (Or.inl ⟨by rfl, ?yl⟩) (by assumption) ?_; (case yl => ((intro w hSw; (try dsimp only at hSw); obtain ⟨_, kk0, _⟩ := hSw; go_simp); with_reducible rfl)); (try simp only [sxA, sxB, sxC, Act.put, sxD, sxE, sxF]))
     (refine wpAnyH_ready (rs := [1]) (by kernel_rfl) (by simp) ?_; refine AllReadyH.cons (o := _) rfl (fun K hK => ?_) AllReadyH.nil)
     go_simp
     refine (hlo.out _ exE).mono ?_; rintro e w5 ⟨rfl, hE5⟩
     have x5 : Ext Wd w5 := exE
     refine hK.out _ _ ⟨by have := xd.out; exact exE, x5.cell cX, x5.heap hKK.out⟩ (fun hHeld => ?_)
     clear hK K
     try simp only [sxA, sxB, sxC, Act.put, sxD, sxE, sxF]
     (refine wpAnyH_ready (rs := [4]) (by kernel_rfl) (by simp) ?_; refine AllReadyH.cons (o := _) rfl (fun K hK => ?_) AllReadyH.nil)
     go_simp
     refine (hhi.out _ x5).mono ?_; rintro e w6 ⟨rfl, hE6⟩
     have x6 : Ext Wd w6 := exE
     have c0 := x6.cell c0; have c1 := x6.cell c1; have d0 := x6.cell d0; have d1 := x6.cell d1
     have f0 := (x6.frozen z0).trans f0; have f1 := (x6.frozen z0).trans f1; have g0 := (x6.frozen z4).trans g0; have g1 := (x6.frozen z4).trans g1
     have y0 := cell_lt c0
     have y4 := cell_lt d0
     dsimp only at y0 y4
     have xw6 := hid (xd.out.trans x6)
     refine hK.out _ _ ⟨xw6.out, x6.cell cX, x6.heap hKK.out⟩ (fun hHeld => ?_)
     clear hK K
     try simp only [sxA, sxB, sxC, Act.put, sxD, sxE, sxF]
     (refine wpAnyH_ready (rs := [5]) (by kernel_rfl) (by simp) ?_; refine AllReadyH.cons (o := _) rfl (fun K hK => ?_) AllReadyH.nil)
     go_simp
     obtain ⟨w7, hw7⟩ : ∃ w7, w7 = (w6.setCell ⟨w.heap.size + 1 + 1, 0, none⟩ (.int .i64 N1)).setCell ⟨w.heap.size + 1 + 1, 1, none⟩ (.int .i64 D1) := ⟨_, rfl⟩
     have hs := hsX.out
     have X7 : Ext w w7 := by rw [hw7]; have := xw6.out; exact exE
     have cX7 : w7.cell? ⟨X, 0, none⟩ = some (.slice av (edP l u c s).length cv) := by rw [hw7]; exact box_put (by omega) (box_put (by omega) (x6.cell cX))
     have h7 : w7.heap[w4.heap.size]? = some (.deferred (some [])) := by
      have := hl4.out
      have := rc.out.lt
      rw [hw7, Below.heap_setCell _ _ _ _ (by dsimp only; omega), Below.heap_setCell _ _ _ _ (by dsimp only; omega)]
      exact x6.heap hKK.out
     have A7 : Bx2 w7 (w.heap.size + 2) N1 D1 := by rw [hw7]; exact Bx2.store ⟨c0, c1, f0, f1⟩ _ _
     have B7 : Bx2 w7 (w.heap.size + 3) 0 0 := by rw [hw7]; exact Bx2.put (Bx2.put ⟨d0, d1, g0, g1⟩ (by omega) _) (by omega) _
     rw [← hw7]
     clear hw7
     refine hK.out _ _ ⟨X7, cX7, h7⟩ (fun hHeld => ?_)
     clear hK K hHeld
     clear c0 c1 d0 d1 f0 f1 g0 g1 y0 y4 x6 x5 hE5 hE6
     obtain ⟨d0, d1, g0, g1⟩ := B7
     have y4 := cell_lt d0
     dsimp only at y4
     try simp only [sxA, sxB, sxC, Act.put, sxD, sxE, sxF]
     (refine wpAnyH_ready (rs := [6]) (by kernel_rfl) (by simp) ?_; refine AllReadyH.cons (o := _) rfl (fun K hK => ?_) AllReadyH.nil)
     go_simp
     obtain ⟨w8, hw8⟩ : ∃ w8, w8 = (w7.setCell ⟨w.heap.size + 1 + 1 + 1, 0, none⟩ (.int .i64 N2)).setCell ⟨w.heap.size + 1 + 1 + 1, 1, none⟩ (.int .i64 D2) := ⟨_, rfl⟩
     have X8 : Ext w w8 := by rw [hw8]; exact exE
     have cX8 : w8.cell? ⟨X, 0, none⟩ = some (.slice av (edP l u c s).length cv) := by rw [hw8]; exact box_put (by omega) (box_put (by omega) cX7)
     have h8 : w8.heap[w4.heap.size]? = some (.deferred (some [])) := by
      have := hl4.out
      rw [hw8, Below.heap_setCell _ _ _ _ (by dsimp only; omega), Below.heap_setCell _ _ _ _ (by dsimp only; omega)]
      exact h7
     have B8 : Bx2 w8 (w.heap.size + 3) N2 D2 := by rw [hw8]; exact Bx2.store ⟨d0, d1, g0, g1⟩ _ _
     have A8 : Bx2 w8 (w.heap.size + 2) N1 D1 := by rw [hw8]; exact Bx2.put (Bx2.put A7 (by omega) _) (by omega) _
     rw [← hw8]
     clear hw8
     refine hK.out _ _ ⟨X8, cX8, h8⟩ (fun hHeld => ?_)
     clear hK K
     try simp only [sxA, sxB, sxC, Act.put, sxD, sxE, sxF]
     (refine tkA (i := 7) (v := ?_) rfl (fun _ _ _ h => h) (Or.inl ⟨by rfl, ?yl⟩) (by assumption) ?_; (case yl => ((intro w hSw; (try dsimp only at hSw); obtain ⟨_, kk0, _⟩ := hSw; go_simp); with_reducible rfl)); (try simp only [sxA, sxB, sxC, Act.put, sxD, sxE, sxF]))
     refine wpAnyH_done (by kernel_rfl) ?_ _
     have kn8 : KN w4.heap.size w8 (w8.putObj w4.heap.size (.deferred none)) := KN.put _ (Nat.le_refl _) (fun o ho => by rw [h8] at ho; cases ho; rfl)
     clear A7 X7 h7 cX7 d0 d1 g0 g1
     obtain ⟨c0, c1, _, _⟩ := A8.kn kn8
     obtain ⟨d0, d1, _, _⟩ := B8.kn kn8
     have xe := hid (kn8.ext X8 X4.out.size)
     simp only [calmS]
     gi_wp2_with fail
     refine ⟨by simp, .inl ⟨_, _, rfl, run_takeDeferred h8, ?_⟩⟩
     exact ⟨(.tuple #[.agg #[.int .i64 (N1), .int .i64 (D1)], .agg #[.int .i64 (N2), .int .i64 (D2)], .int .i64 (0)]), by simp [results, Try.results40, go_sem, *], hfin.out _ xe.out⟩
 ·have X1 := hid (x0.out.trans hE)
  have rb := rb.out.ext hE
  have rc := rc.out.ext hE
  obtain ⟨c0, c1, f0, f1⟩ := rb
  obtain ⟨d0, d1, g0, g1⟩ := rc
  have z0 := cell_lt c0
  have z4 := cell_lt d0
  have hg1 : (chkB l u c != 0) = true := by simpa using hch
  rw [if_pos hch] at hsE
  have hfin := hid (hno.out _ hsE.out hch)
  replace hch := hid hch
  clear hE ho hno hsE
  gi_wp2_with fail
  exact ⟨(.tuple #[.agg #[.int .i64 (0), .int .i64 (0)], .agg #[.int .i64 (0), .int .i64 (0)], .int .i64 (chkB l u c)]), by simp [results, Try.results40, go_sem, *], hfin.out _ (by have := X1.out; exact exE)⟩
end Go.Proofs.Ytpnfhcnnodolbaa
