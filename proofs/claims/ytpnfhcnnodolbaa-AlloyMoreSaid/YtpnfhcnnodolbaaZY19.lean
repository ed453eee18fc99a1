/- Texts of one proof, laid together: Pd, Py, Pz. -/
import Derived.Test.YtpnfhcnnodolbaaZY10
import Derived.Test.YtpnfhcnnodolbaaZY18
import Derived.Test.YtpnfhcnnodolbaaZY9
import Derived.Test.YtpnfhcnnodolbaaZY1
set_option linter.unusedVariables false
set_option linter.unusedSimpArgs false
set_option linter.unusedSectionVars false
set_option linter.unnecessarySimpa false
set_option maxRecDepth 100000
namespace Go.Proofs.Ytpnfhcnnodolbaa
open Go Go.RowKit Game
theorem Told.mid {m n : Nat} {A B C : World → Prop} {l : Array Bool} {w : World} (h1 : l.getD n false = true) (h2 : A w) (h3 : C w) : Told m n A B C l w :=
 ⟨fun _ => h2, (fun h => by rw [h1] at h; cases h), h3⟩
theorem elemRow3 : ElemG Try.prog 120 3 24 := elemG_mk (by kernel_rfl)
theorem el3 {w : World} {x y z : Value} {t : TypeId} {f : Nat → Value} (h0 : f 0 = x) (h1 : f 1 = y) (h2 : f 2 = z) : ∀ i, i < 1 → ∀ r, r < 3 → (w.alloc (.cells #[x, y, z] t)).cell? ⟨w.heap.size, 0 + i * 3 + r, none⟩ = some (f r) := by
 intro i hi r hr
 obtain rfl : i = 0 := by omega
 have : r = 0 ∨ r = 1 ∨ r = 2 := by omega
 rcases this with rfl | rfl | rfl
 ·rw [h0]; simp [go_sem]
 ·rw [h1]; simp [go_sem]
 ·rw [h2]; simp [go_sem]
structure PotB (w W : World) (D : Nat) (sl : Value) (u c : Int) (vv : Value) (f : Nat → Nat → Value) (k : Nat) : Prop where
 c0 : W.cell? ⟨D, 0, none⟩ = some sl
 c1 : W.cell? ⟨D, 1, none⟩ = some (.int .i64 u)
 c2 : W.cell? ⟨D, 2, none⟩ = some (.int .i64 c)
 c3 : W.cell? ⟨D, 3, none⟩ = some vv
 f3 : W.frozen? ⟨D, 3, none⟩ = false
 o : OwnG W (D + 1) 120 3 vv f k
 x : Ext w W
 hD : w.heap.size ≤ D
theorem PotB.ext {w W W' : World} {D : Nat} {sl : Value} {u c : Int} {vv : Value} {f : Nat → Nat → Value} {k : Nat} (h : PotB w W D sl u c vv f k) (x : Ext W W') : PotB w W' D sl u c vv f k :=
 ⟨x.cell h.c0, x.cell h.c1, x.cell h.c2, x.cell h.c3, (x.frozen (cell_lt h.c3)).trans h.f3, h.o.ext x, h.x.trans x, h.hD⟩
theorem PotB.app {w W W' : World} {D : Nat} {sl : Value} {u c : Int} {vv v2 : Value} {f : Nat → Nat → Value} {k : Nat} (h : PotB w W D sl u c vv f k) (g : W.grownBy W' vv.ownBlock) (o2 : OwnG W' (D + 1) 120 3 v2 f (k + 1)) : PotB w (W'.setCell ⟨D, 3, none⟩ v2) D sl u c v2 f (k + 1) := by
 have hne : some D ≠ vv.ownBlock := fun e => by have := (h.o.block _ e.symm).1; omega
 have hl : D < W.heap.size := cell_lt h.c3
 have d3 := g.cell h.c3 hne
 refine ⟨?_, ?_, ?_, cell_put_eq d3, ?_, o2.put (fun e => by have := (o2.block _ e).1; dsimp only at this; omega) _, ?_, h.hD⟩
 ·rw [World.cell?_setCell_other _ _ _ _ (by simp)]; exact g.cell h.c0 hne
 ·rw [World.cell?_setCell_other _ _ _ _ (by simp)]; exact g.cell h.c1 hne
 ·rw [World.cell?_setCell_other _ _ _ _ (by simp)]; exact g.cell h.c2 hne
 ·rw [World.frozen?_setCell, grownBy_frozen g hl hne]; exact h.f3
 ·exact Ext.setCell (Ext.grown h.x g fun r e => by have := (h.o.block _ e).1; have := h.hD; omega) (by simpa using h.hD) _
set_option maxHeartbeats 4000000 in
theorem newPot_any (l : List Met) (v : VldM l) (a : Option Addr) (cap : Nat) (u c : Int) (s : Bool) (w : World) (hM : Mts w a l) :
 Calls Try.prog 57 #[.slice a l.length cap, (.agg #[.int .i64 (u), .int .i64 (c)]), .bool s] w fun e w' => ∃ D, e = .returned (.pointer (some ⟨D, 0, none⟩)) ∧ Pot w' D l u c s ∧ Ext w w' := by
 have n1 := v.n1; have n6 := v.n6
 have hM' := hid hM
 obtain ⟨b, off, rfl, hbl, hcc⟩ := hM.at (by omega)
 have HC := hid hcc
 have hpr := hid v.pr
 have hle := hid v.le
 have hco := hid v.co
 clear hM hcc
 obtain ⟨N, hN⟩ : ∃ N, l.length = N := ⟨_, rfl⟩
 rw [hN] at HC n1 n6
 rw [hN]
 replace hN := hid hN
 clear v
 go_enter Try.func57, Try.ntmps57
 go_wp2_with fail
 refine name_wp (fun w0 hw0 => ?_)
 have hD0 : ∃ D, w.heap.size + 1 = D := ⟨_, rfl⟩
 obtain ⟨D, hD⟩ := hD0
 have hPB : PotB w w0 D (.slice (some ⟨b, off, none⟩) N cap) u c (.slice none 0 0) (rwV l s) 0 := by
  rw [hw0, ← hD]
  exact ⟨by simp [go_sem], by simp [go_sem], by simp [go_sem], by simp [go_sem], by simp [go_sem], OwnG.nil _ _ _ _ _, exE, by omega⟩
 rw [hD]
 clear hw0
 replace hPB := hid hPB
 have k0 := hPB.out.c0
 replace hD := hid hD
 go_wp2_with fail
 have hPB : Hid (PotB w w0 D (.slice (some ⟨b, off, none⟩) N cap) u c (.slice none 0 0) (rwV l s) 0) := hPB
 clear k0
 go_loopw [22] (fun i wr => ∃ (k : Nat) (vv : Value), k ≤ N ∧ i = .int .i64 k ∧ Hid (PotB w wr D (.slice (some ⟨b, off, none⟩) N cap) u c vv (rwV l s) k)) (fun i _ => (N - intOf i).toNat)
 case atStart => exact ⟨0, _, by omega, rfl, hPB⟩
 case round =>
  obtain ⟨k, vv, hk, rfl, hP⟩ := hrel
  by_cases hkl : k < N
  ·have hkI : (k : Int) < (N : Int) := by omega
   have hx := hid hP.out.x
   obtain ⟨j0, j1, j2, j3, j4⟩ := (HC.out k hkl).ext hx.out
   have hl1 := cell_lt j0
   have p2 := hle.out k
   have hrv : Hid (rwV l s k 0 = .int .i64 1 ∧ rwV l s k 1 = .int .i64 (- badL (mtl l k) s) ∧ rwV l s k 2 = .int .i64 (goodC (mtl l k) s)) := hid ⟨by simp [rwV, rwM], by simp [rwV, rwM], by simp [rwV, rwM]⟩
   have hbg : Hid (badL (mtl l k) s = (if s then (mtl l k).lh else (mtl l k).ll) ∧ goodC (mtl l k) s = (if s then (mtl l k).cl else (mtl l k).ch)) := hid ⟨rfl, rfl⟩
   obtain ⟨m0, hm0⟩ : ∃ z, (mtl l k).p = z := ⟨_, rfl⟩
   obtain ⟨m1, hm1⟩ : ∃ z, (mtl l k).ll = z := ⟨_, rfl⟩
   obtain ⟨m2, hm2⟩ : ∃ z, (mtl l k).lh = z := ⟨_, rfl⟩
   obtain ⟨m3, hm3⟩ : ∃ z, (mtl l k).cl = z := ⟨_, rfl⟩
   obtain ⟨m4, hm4⟩ : ∃ z, (mtl l k).ch = z := ⟨_, rfl⟩
   rw [hm0] at j0
   rw [hm1] at j1 p2 hbg
   rw [hm2] at j2 p2 hbg
   rw [hm3] at j3 hbg
   rw [hm4] at j4 hbg
   have t1 := Go.IntWalk.i64_in (- m1) (by omega)
   have t2 := Go.IntWalk.i64_in (- m2) (by omega)
   have t3 := Go.IntWalk.i64_in ((k : Int) + 1) (by omega)
   obtain ⟨x1, hx1⟩ : ∃ z, - badL (mtl l k) s = z := ⟨_, rfl⟩
   obtain ⟨x2, hx2⟩ : ∃ z, goodC (mtl l k) s = z := ⟨_, rfl⟩
   rw [hx1, hx2] at hrv
   have hbox : Hid (x1 = (if s then - m2 else - m1) ∧ x2 = (if s then m3 else m4)) := hid (by
    obtain ⟨e1, e2⟩ := hbg.out
    rw [← hx1, ← hx2, e1, e2]
    cases s <;> exact ⟨rfl, rfl⟩)
   clear hm0 hm1 hm2 hm3 hm4 p2 hbg hx1 hx2
   cases s with
   | true =>
    try simp only [if_true, if_false, Bool.false_eq_true, Bool.true_eq_false, ↓reduceIte] at hbox
    obtain ⟨b1, b2⟩ := hbox.out
    rw [b1, b2] at hrv
    clear hbox b1 b2
    go_wp2_with fail
    refine name_wp (fun wq hwq => ?_)
    have xq : Ext wr wq := by rw [hwq]; exact exE
    have q0 : wq.cell? ⟨wr.heap.size + 1, 0, none⟩ = some (.int .i64 1) := by rw [hwq]; simp [go_sem]
    have q1 : wq.cell? ⟨wr.heap.size + 1, 1, none⟩ = some (.int .i64 (- m2)) := by rw [hwq]; simp [go_sem]
    have q2 : wq.cell? ⟨wr.heap.size + 1, 2, none⟩ = some (.int .i64 m3) := by rw [hwq]; simp [go_sem]
    clear hwq
    replace hP := hid (hP.out.ext xq)
    have c3 := hP.out.c3
    have f3 := hP.out.f3
    have hz := cell_lt c3
    dsimp only at hz
    clear j0 j1 j2 j3 j4 t1 t2 hl1 xq
    generalize wr.heap.size + 1 = C at *
    refine wp_region_told (Told 10 6 (fun w' => w'.cell? ⟨D, 3, none⟩ = some vv) (fun w' => w'.cell? ⟨C, 0, none⟩ = some (.int .i64 1) ∧ w'.cell? ⟨C, 1, none⟩ = some (.int .i64 (- m2)) ∧ w'.cell? ⟨C, 2, none⟩ = some (.int .i64 m3)) (fun _ => True)) (by kernel_rfl) (Told.all (by exact c3) ⟨q0, q1, q2⟩ trivial) fun hTold => ?_
    (refine wpAnyT_take (i := 0) (oi := _) (v := ?_) rfl (by kernel_rfl) (by kernel_rfl) (by kernel_rfl) (by kernel_rfl) (fun _ _ _ h => h) (Told.c) (Told.ind (by decide) (by decide)) (Or.inl ⟨by rfl, ?yl⟩) (by assumption) (fun hHeld => ?_); (case yl => ((intro w hSw; (try dsimp only at hSw); go_simp); with_reducible rfl)); (try clear hTold); rename _ => hTold; (try simp only [sxA, sxB, sxC, Act.put, sxD, sxE, sxF]))
    (refine wpAnyT_take (i := 1) (oi := _) (v := ?_) rfl (by kernel_rfl) (by kernel_rfl) (by kernel_rfl) (by kernel_rfl) (fun _ _ _ h => h) (Told.c) (Told.ind (by decide) (by decide)) (Or.inl ⟨by rfl, ?yl⟩) (by assumption) (fun hHeld => ?_); (case yl => ((intro w hSw; (try dsimp only at hSw); go_simp); with_reducible rfl)); (try clear hTold); rename _ => hTold; (try simp only [sxA, sxB, sxC, Act.put, sxD, sxE, sxF]))
    (refine wpAnyT_take (i := 2) (oi := _) (v := ?_) rfl (by kernel_rfl) (by kernel_rfl) (by kernel_rfl) (by kernel_rfl) (fun _ _ _ h => h) (Told.c) (Told.ind (by decide) (by decide)) (Or.inl ⟨by rfl, ?yl⟩) (by assumption) (fun hHeld => ?_); (case yl => ((intro w hSw; (try dsimp only at hSw); go_simp); with_reducible rfl)); (try clear hTold); rename _ => hTold; (try simp only [sxA, sxB, sxC, Act.put, sxD, sxE, sxF]))
    (refine wpAnyT_take (i := 3) (oi := _) (v := ?_) rfl (by kernel_rfl) (by kernel_rfl) (by kernel_rfl) (by kernel_rfl) (fun _ _ _ h => h) (Told.c) (Told.ind (by decide) (by decide)) (Or.inl ⟨by rfl, ?yl⟩) (by assumption) (fun hHeld => ?_); (case yl => ((intro w hSw; (try dsimp only at hSw); go_simp); with_reducible rfl)); (try clear hTold); rename _ => hTold; (try simp only [sxA, sxB, sxC, Act.put, sxD, sxE, sxF]))
    (refine wpAnyT_take (i := 4) (oi := _) (v := ?_) rfl (by kernel_rfl) (by kernel_rfl) (by kernel_rfl) (by kernel_rfl) (fun _ _ _ h => h) (Told.a (f := 11) (by kernel_rfl)) (Told.ind (by decide) (by decide)) (Or.inl ⟨by rfl, ?yl⟩) (by assumption) (fun hHeld => ?_); (case yl => ((intro w hSw; (try dsimp only at hSw); go_simp); with_reducible rfl)); (try clear hTold); rename _ => hTold; (try simp only [sxA, sxB, sxC, Act.put, sxD, sxE, sxF]))
    (refine wpAnyT_take (i := 5) (oi := _) (v := ?_) rfl (by kernel_rfl) (by kernel_rfl) (by kernel_rfl) (by kernel_rfl) (fun _ _ _ h => h) (Told.b (f := 11) (by kernel_rfl)) (Told.ind (by decide) (by decide)) (Or.inl ⟨by rfl, ?yl⟩) (by assumption) (fun hHeld => ?_); (case yl => ((intro w hSw; (try dsimp only at hSw); go_simp); with_reducible rfl)); (try clear hTold); rename _ => hTold; (try simp only [sxA, sxB, sxC, Act.put, sxD, sxE, sxF]))
    refine wpAnyT_one (i := 6) (o := _) (by kernel_rfl) rfl (fun K hK => ?_)
    go_simp
    refine hK.out _ _ (Told.mid (by kernel_rfl) (Ext.cell (w := wq) exE c3) trivial) (fun hTold => ?_)
    clear hK K
    try simp only [sxA, sxB, sxC, Act.put, sxD, sxE, sxF]
    refine wpAnyT_one (i := 7) (o := _) (by kernel_rfl) rfl (fun K hK => ?_)
    rw [if_pos (by rfl)]
    refine appG_wp _ _ _ rfl 120 3 24 Try.underlying116 elemRow3 (by decide) (D + 1) (rwV l true) k vv rfl wq.heap.size 0 1 1 (fun _ r => rwV l true k r) rfl (hP.out.o.ext exE) (el3 (w := wq.drew) (f := fun r => rwV l true k r) hrv.out.1 hrv.out.2.1 hrv.out.2.2) (by decide) (fun i r _ _ => rfl) (by omega) (by decide) (by simp; omega) (rwV l true) (fun _ _ _ _ => rfl) (fun i r hi _ => (by rw [show i = 0 by omega]; rfl)) ?_
    intro b9 cp9 w9 ho9 hg9 at9 hb9 hE9
    have hP9 := hid (PotB.app (hP.out.ext (show Ext wq _ from exE)) hg9 ho9)
    have hne9 : some D ≠ vv.ownBlock := fun e => by have := (hP.out.o.block _ e.symm).1; omega
    have d3 : w9.cell? ⟨D, 3, none⟩ = some vv := hg9.cell (Ext.cell (w := wq) exE c3) hne9
    have e3 : w9.frozen? ⟨D, 3, none⟩ = false := (grownBy_frozen hg9 (cell_lt (Ext.cell (w := wq) exE c3)) hne9).trans ((Ext.frozen (w := wq) exE hz).trans f3)
    refine hK.out _ _ (Told.mid (by kernel_rfl) d3 trivial) (fun hTold => ?_)
    clear hK K hg9
    have z9 := cell_lt d3
    dsimp only at z9
    try simp only [sxA, sxB, sxC, Act.put, sxD, sxE, sxF]
    refine wpAnyT_one (i := 8) (o := _) (by kernel_rfl) rfl (fun K hK => ?_)
    go_simp
    refine hK.out _ _ (Told.mid (by kernel_rfl) d3 trivial) (fun hTold => ?_)
    clear hK K
    try simp only [sxA, sxB, sxC, Act.put, sxD, sxE, sxF]
    refine wpAnyT_one (i := 9) (o := _) (by kernel_rfl) rfl (fun K hK => ?_)
    go_simp
    refine hK.out _ _ (Told.mid (by kernel_rfl) d3 trivial) (fun hTold => ?_)
    clear hK K
    try simp only [sxA, sxB, sxC, Act.put, sxD, sxE, sxF]
    refine wpAnyT_one (i := 10) (o := _) (by kernel_rfl) rfl (fun K hK => ?_)
    go_simp
    refine hK.out _ _ (Told.past (by kernel_rfl) (by kernel_rfl) trivial) (fun hTold => ?_)
    clear hK K
    refine wpAnyT_done (by kernel_rfl) ?_ _
    clear hTold
    go_wp2_with fail
    go_roundw
    case rel => exact ⟨k + 1, _, by omega, by go_num, hP9⟩
    case measure => simp [intOf]; omega
   | false =>
    try simp only [if_true, if_false, Bool.false_eq_true, Bool.true_eq_false, ↓reduceIte] at hbox
    obtain ⟨b1, b2⟩ := hbox.out
    rw [b1, b2] at hrv
    clear hbox b1 b2
    go_wp2_with fail
    refine name_wp (fun wq hwq => ?_)
    have xq : Ext wr wq := by rw [hwq]; exact exE
    have q0 : wq.cell? ⟨wr.heap.size + 1, 0, none⟩ = some (.int .i64 1) := by rw [hwq]; simp [go_sem]
    have q1 : wq.cell? ⟨wr.heap.size + 1, 1, none⟩ = some (.int .i64 (- m1)) := by rw [hwq]; simp [go_sem]
    have q2 : wq.cell? ⟨wr.heap.size + 1, 2, none⟩ = some (.int .i64 m4) := by rw [hwq]; simp [go_sem]
    clear hwq
    replace hP := hid (hP.out.ext xq)
    have c3 := hP.out.c3
    have f3 := hP.out.f3
    have hz := cell_lt c3
    dsimp only at hz
    clear j0 j1 j2 j3 j4 t1 t2 hl1 xq
    generalize wr.heap.size + 1 = C at *
    refine wp_region_told (Told 10 6 (fun w' => w'.cell? ⟨D, 3, none⟩ = some vv) (fun w' => w'.cell? ⟨C, 0, none⟩ = some (.int .i64 1) ∧ w'.cell? ⟨C, 1, none⟩ = some (.int .i64 (- m1)) ∧ w'.cell? ⟨C, 2, none⟩ = some (.int .i64 m4)) (fun _ => True)) (by kernel_rfl) (Told.all (by exact c3) ⟨q0, q1, q2⟩ trivial) fun hTold => ?_
    (refine wpAnyT_take (i := 0) (oi := _) (v := ?_) rfl (by kernel_rfl) (by kernel_rfl) (by kernel_rfl) (by kernel_rfl) (fun _ _ _ h => h) (Told.c) (Told.ind (by decide) (by decide)) (Or.inl ⟨by rfl, ?yl⟩) (by assumption) (fun hHeld => ?_); (case yl => ((intro w hSw; (try dsimp only at hSw); go_simp); with_reducible rfl)); (try clear hTold); rename _ => hTold; (try simp only [sxA, sxB, sxC, Act.put, sxD, sxE, sxF]))
    (refine wpAnyT_take (i := 1) (oi := _) (v := ?_) rfl (by kernel_rfl) (by kernel_rfl) (by kernel_rfl) (by kernel_rfl) (fun _ _ _ h => h) (Told.c) (Told.ind (by decide) (by decide)) (Or.inl ⟨by rfl, ?yl⟩) (by assumption) (fun hHeld => ?_); (case yl => ((intro w hSw; (try dsimp only at hSw); go_simp); with_reducible rfl)); (try clear hTold); rename _ => hTold; (try simp only [sxA, sxB, sxC, Act.put, sxD, sxE, sxF]))
    (refine wpAnyT_take (i := 2) (oi := _) (v := ?_) rfl (by kernel_rfl) (by kernel_rfl) (by kernel_rfl) (by kernel_rfl) (fun _ _ _ h => h) (Told.c) (Told.ind (by decide) (by decide)) (Or.inl ⟨by rfl, ?yl⟩) (by assumption) (fun hHeld => ?_); (case yl => ((intro w hSw; (try dsimp only at hSw); go_simp); with_reducible rfl)); (try clear hTold); rename _ => hTold; (try simp only [sxA, sxB, sxC, Act.put, sxD, sxE, sxF]))
    (refine wpAnyT_take (i := 3) (oi := _) (v := ?_) rfl (by kernel_rfl) (by kernel_rfl) (by kernel_rfl) (by kernel_rfl) (fun _ _ _ h => h) (Told.c) (Told.ind (by decide) (by decide)) (Or.inl ⟨by rfl, ?yl⟩) (by assumption) (fun hHeld => ?_); (case yl => ((intro w hSw; (try dsimp only at hSw); go_simp); with_reducible rfl)); (try clear hTold); rename _ => hTold; (try simp only [sxA, sxB, sxC, Act.put, sxD, sxE, sxF]))
    (refine wpAnyT_take (i := 4) (oi := _) (v := ?_) rfl (by kernel_rfl) (by kernel_rfl) (by kernel_rfl) (by kernel_rfl) (fun _ _ _ h => h) (Told.a (f := 11) (by kernel_rfl)) (Told.ind (by decide) (by decide)) (Or.inl ⟨by rfl, ?yl⟩) (by assumption) (fun hHeld => ?_); (case yl => ((intro w hSw; (try dsimp only at hSw); go_simp); with_reducible rfl)); (try clear hTold); rename _ => hTold; (try simp only [sxA, sxB, sxC, Act.put, sxD, sxE, sxF]))
    (refine wpAnyT_take (i := 5) (oi := _) (v := ?_) rfl (by kernel_rfl) (by kernel_rfl) (by kernel_rfl) (by kernel_rfl) (fun _ _ _ h => h) (Told.b (f := 11) (by kernel_rfl)) (Told.ind (by decide) (by decide)) (Or.inl ⟨by rfl, ?yl⟩) (by assumption) (fun hHeld => ?_); (case yl => ((intro w hSw; (try dsimp only at hSw); go_simp); with_reducible rfl)); (try clear hTold); rename _ => hTold; (try simp only [sxA, sxB, sxC, Act.put, sxD, sxE, sxF]))
    refine wpAnyT_one (i := 6) (o := _) (by kernel_rfl) rfl (fun K hK => ?_)
    go_simp
    refine hK.out _ _ (Told.mid (by kernel_rfl) (Ext.cell (w := wq) exE c3) trivial) (fun hTold => ?_)
    clear hK K
    try simp only [sxA, sxB, sxC, Act.put, sxD, sxE, sxF]
    refine wpAnyT_one (i := 7) (o := _) (by kernel_rfl) rfl (fun K hK => ?_)
    rw [if_pos (by rfl)]
    refine appG_wp _ _ _ rfl 120 3 24 Try.underlying116 elemRow3 (by decide) (D + 1) (rwV l false) k vv rfl wq.heap.size 0 1 1 (fun _ r => rwV l false k r) rfl (hP.out.o.ext exE) (el3 (w := wq.drew) (f := fun r => rwV l false k r) hrv.out.1 hrv.out.2.1 hrv.out.2.2) (by decide) (fun i r _ _ => rfl) (by omega) (by decide) (by simp; omega) (rwV l false) (fun _ _ _ _ => rfl) (fun i r hi _ => (by rw [show i = 0 by omega]; rfl)) ?_
    intro b9 cp9 w9 ho9 hg9 at9 hb9 hE9
    have hP9 := hid (PotB.app (hP.out.ext (show Ext wq _ from exE)) hg9 ho9)
    have hne9 : some D ≠ vv.ownBlock := fun e => by have := (hP.out.o.block _ e.symm).1; omega
    have d3 : w9.cell? ⟨D, 3, none⟩ = some vv := hg9.cell (Ext.cell (w := wq) exE c3) hne9
    have e3 : w9.frozen? ⟨D, 3, none⟩ = false := (grownBy_frozen hg9 (cell_lt (Ext.cell (w := wq) exE c3)) hne9).trans ((Ext.frozen (w := wq) exE hz).trans f3)
    refine hK.out _ _ (Told.mid (by kernel_rfl) d3 trivial) (fun hTold => ?_)
    clear hK K hg9
    have z9 := cell_lt d3
    dsimp only at z9
    try simp only [sxA, sxB, sxC, Act.put, sxD, sxE, sxF]
    refine wpAnyT_one (i := 8) (o := _) (by kernel_rfl) rfl (fun K hK => ?_)
    go_simp
    refine hK.out _ _ (Told.mid (by kernel_rfl) d3 trivial) (fun hTold => ?_)
    clear hK K
    try simp only [sxA, sxB, sxC, Act.put, sxD, sxE, sxF]
    refine wpAnyT_one (i := 9) (o := _) (by kernel_rfl) rfl (fun K hK => ?_)
    go_simp
    refine hK.out _ _ (Told.mid (by kernel_rfl) d3 trivial) (fun hTold => ?_)
    clear hK K
    try simp only [sxA, sxB, sxC, Act.put, sxD, sxE, sxF]
    refine wpAnyT_one (i := 10) (o := _) (by kernel_rfl) rfl (fun K hK => ?_)
    go_simp
    refine hK.out _ _ (Told.past (by kernel_rfl) (by kernel_rfl) trivial) (fun hTold => ?_)
    clear hK K
    refine wpAnyT_done (by kernel_rfl) ?_ _
    clear hTold
    go_wp2_with fail
    go_roundw
    case rel => exact ⟨k + 1, _, by omega, by go_num, hP9⟩
    case measure => simp [intOf]; omega
  ·have hkN : k = N := by omega
   have hnn : ¬ (N : Int) < (N : Int) := by omega
   rw [hkN] at hP
   rw [hkN]
   clear hkN hk hkl
   go_wp2_with fail
   go_ret
   obtain ⟨aa, cc, rfl, hcc, hE⟩ := hP.out.o.els
   refine ⟨D, rfl, ⟨⟨_, _, by rw [hN.out]; exact hP.out.c0, hM'.out.ext hP.out.x⟩, hP.out.c1, hP.out.c2, ⟨_, _, by rw [hN.out]; exact hP.out.c3, by rw [hN.out]; exact hE⟩, ⟨_, _, by rw [hN.out]; exact hP.out.c3, by rw [hN.out]; exact hcc⟩⟩, hP.out.x⟩
def RetPot (l : List Met) (u c : Int) (s : Bool) (w : World) (e : Ending) (w' : World) : Prop :=
 (chkB l u c = 0 ∧ ∃ D, e = .returned (.tuple #[(.pointer (some ⟨D, 0, none⟩)), .int .i64 0]) ∧ Pot w' D l u c s ∧ Ext w w') ∨ (¬ chkB l u c = 0 ∧ e = .returned (.tuple #[.pointer none, .int .i64 (chkB l u c)]) ∧ Ext w w')
set_option maxHeartbeats 2000000 in
theorem open_any (l : List Met) (q : FitM l) (hl : l.length ≤ 1000) (a : Option Addr) (cap : Nat) (u c : Int) (iu : I64 u) (ic : I64 c) (s : Bool) (w : World) (hM : Mts w a l) :
 Calls Try.prog 66 #[.slice a l.length cap, (.agg #[.int .i64 (u), .int .i64 (c)]), .bool s] w (RetPot l u c s w) := by
 replace hM := hid hM
 have hc1 := hid (fun W hW => checkMetals_any l q hl a cap W hW)
 have hc2 := hid (fun W => checkTouch_any u c iu ic W)
 have hB : Hid (chkB l u c = if chkM l = 0 then chkU u c else chkM l) := hid rfl
 obtain ⟨E, hE⟩ : ∃ E, chkB l u c = E := ⟨_, rfl⟩
 have hR : Hid (∀ e w', ((E = 0 ∧ ∃ D, e = .returned (.tuple #[(.pointer (some ⟨D, 0, none⟩)), .int .i64 0]) ∧ Pot w' D l u c s ∧ Ext w w') ∨ (¬ E = 0 ∧ e = .returned (.tuple #[.pointer none, .int .i64 E]) ∧ Ext w w')) → RetPot l u c s w e w') := hid fun e w' h => by unfold RetPot; rw [hE]; exact h
 rw [hE] at hB
 clear hE q iu ic
 go_enter Try.func66, Try.ntmps66
 go_wp2_with fail
 refine name_c (fun w0 hw0 => ?_)
 have x0 := hid (show Ext w w0 by rw [hw0]; exact exE)
 have j0 : w0.cell? ⟨w.heap.size, 0, none⟩ = some (.int .i64 u) := by rw [hw0]; simp [go_sem]
 have j1 : w0.cell? ⟨w.heap.size, 1, none⟩ = some (.int .i64 c) := by rw [hw0]; simp [go_sem]
 clear hw0
 refine (hc1.out _ (hM.out.ext x0.out)).mono ?_; rintro e w1 ⟨rfl, hE1⟩
 replace j0 := hE1.cell j0
 replace j1 := hE1.cell j1
 have x1 := hid (x0.out.trans hE1)
 by_cases g : chkM l = 0
 ·rw [g]
  rw [if_pos g] at hB
  have hvM := hid (chkM_ok.1 g)
  replace g := hid g
  clear hE1
  go_wp2_with fail
  refine (hc2.out _).mono ?_; rintro e w2 ⟨rfl, hE2⟩
  replace j0 := hE2.cell j0
  replace j1 := hE2.cell j1
  have x2 := hid (x1.out.trans hE2)
  by_cases g2 : chkU u c = 0
  ·rw [g2] at hB ⊢
   replace g2 := hid g2
   clear hE2
   go_wp2_with fail
   refine (newPot_any l hvM.out a cap u c s _ (hM.out.ext x2.out)).mono ?_; rintro e w3 ⟨D, rfl, hP, hE3⟩
   have hP := hid hP
   have x3 := hid (x2.out.trans hE3)
   clear hE3
   go_wp2_with fail
   refine bodyPost_ret (v := .tuple #[(.pointer (some ⟨D, 0, none⟩)), .int .i64 0]) ?_ rfl ?_
   ·simp [results, Try.results66, go_sem, *]
   ·exact hR.out _ _ (.inl ⟨hB.out, D, rfl, hP.out, x3.out⟩)
  ·have h2 : (chkU u c != 0) = true := by simpa using g2
   have hn := hid (show ¬ E = 0 by rw [hB.out]; exact g2)
   replace g2 := hid g2
   go_wp2_with fail
   refine bodyPost_ret (v := .tuple #[.pointer none, .int .i64 (chkU u c)]) ?_ rfl ?_
   ·simp [results, Try.results66, go_sem, *]
   ·exact hR.out _ _ (.inr ⟨hn.out, by rw [hB.out], x2.out⟩)
 ·have h2 : (chkM l != 0) = true := by simpa using g
  rw [if_neg g] at hB
  have hn := hid (show ¬ E = 0 by rw [hB.out]; exact g)
  replace g := hid g
  go_wp2_with fail
  refine bodyPost_ret (v := .tuple #[.pointer none, .int .i64 (chkM l)]) ?_ rfl ?_
  ·simp [results, Try.results66, go_sem, *]
  ·exact hR.out _ _ (.inr ⟨hn.out, by rw [hB.out], x1.out⟩)
theorem dnB_in (d : Int) : inR 1 1073741824 d = dnB d := by
 unfold inR dnB
 rw [Bool.eq_iff_iff]
 simp
set_option maxHeartbeats 4000000 in
theorem checkProof_any (l : List Met) (q : FitM l) (hl : l.length ≤ 1000) (a : Option Addr) (cap : Nat) (u c : Int) (iu : I64 u) (ic : I64 c) (s : Bool) (d b le co : Int) (qd : I64 d) (qb : I64 b) (ql : I64 le) (qc : I64 co) (w : World) (hM : Mts w a l) :
 Calls Try.prog 33 #[.slice a l.length cap, (.agg #[.int .i64 (u), .int .i64 (c)]), .bool s, (.agg #[.int .i64 (d), .int .i64 (b), .int .i64 (le), .int .i64 (co)])] w fun e w' => e = .returned (.tuple #[.agg #[.int .i64 (prfNE l u c s d b le co), .int .i64 (prfDE l u c s d b le co)], .int .i64 (prfE l u c s d b le co)]) ∧ Ext w w' := by
 have ho := hid (fun W (x : Ext w W) => open_any l q hl a cap u c iu ic s W (hM.ext x))
 have hnm := hid (fun W => numbers_any 1 1073741824 d b le co qd qb ql qc W)
 rw [dnB_in] at hnm
 clear q hM
 go_enter Try.func33, Try.ntmps33
 go_wp2_with fail
 refine (ho.out _ exE).mono ?_
 rintro e w1 (⟨hch, D, rfl, hP, hE⟩ | ⟨hch, rfl, hE⟩)
 ·have p0 := hE.cell (p := ⟨w.heap.size + 1, 0, none⟩) (v := .int .i64 d) (by simp [go_sem])
  have p1 := hE.cell (p := ⟨w.heap.size + 1, 1, none⟩) (v := .int .i64 b) (by simp [go_sem])
  have p2 := hE.cell (p := ⟨w.heap.size + 1, 2, none⟩) (v := .int .i64 le) (by simp [go_sem])
  have p3 := hE.cell (p := ⟨w.heap.size + 1, 3, none⟩) (v := .int .i64 co) (by simp [go_sem])
  have rb : Bx2 w1 (w.heap.size + 2) 0 0 := Bx2.ext ⟨by simp [go_sem], by simp [go_sem], by simp [go_sem], by simp [go_sem]⟩ hE
  have X1 := hid (show Ext w w1 from exE)
  have hP := hid hP
  have z1 := cell_lt rb.c0
  dsimp only at z1
  have rb := hid rb
  clear hE ho
  go_wp2_with fail
  refine (hnm.out _).mono ?_; rintro e w2 ⟨rfl, hE⟩
  have x12 : Ext w1 w2 := exE
  have p0 := hid (x12.cell p0); have p1 := hid (x12.cell p1); have p2 := hid (x12.cell p2); have p3 := hid (x12.cell p3)
  have rb := rb.out.ext x12
  have hP := hid (hP.out.ext x12)
  have X2 := hid (X1.out.trans x12)
  clear hE
  have z2 := cell_lt rb.c0
  dsimp only at z2
  by_cases g : dnB d = true ∧ isPf b le co = true
  ·have hg2 : (dnB d && isPf b le co) = true := by rw [g.1, g.2]; rfl
   rw [hg2]
   have hv := chkB_ok hch
   have rb := hid rb
   have hd : 1 ≤ d ∧ d ≤ 1073741824 := by have := g.1; unfold dnB at this; simpa using this
   have r0 := p0.out; have r1 := p1.out; have r2 := p2.out; have r3 := p3.out
   have hho := hid (fun W (x : Ext w2 W) => holds_any l hv.1 u c s D d b le co (by omega) g.2 W (hP.out.ext x))
   cases hh : hld l s d b le co with
   | false =>
    rw [hh] at hho
    have hp := hid (prf_no (show prfE l u c s d b le co = 14 by unfold prfE; rw [if_neg (by rw [hch]; decide), if_neg (by simpa using g), if_neg (by rw [hh]; decide)]) (by decide))
    go_wp2_with fail
    refine (hho.out _ exE).mono ?_; rintro e w3 ⟨rfl, hE3⟩
    have x23 : Ext w2 w3 := exE
    obtain ⟨c0, c1, f0, f1⟩ := rb.out.ext x23
    have z3 := cell_lt c0
    dsimp only at z3
    have X3 := hid (X2.out.trans x23)
    clear hE3 x23
    go_wp2_with fail
    refine bodyPost_ret (v := .tuple #[.agg #[.int .i64 0, .int .i64 0], .int .i64 14]) (by simp [results, Try.results33, go_sem, *]) rfl ⟨by rw [hp.out.1, hp.out.2.1, hp.out.2.2], by have := X3.out; exact exE⟩
   | true =>
    rw [hh] at hho
    have hp := hid (prf_yes (show prfE l u c s d b le co = 0 by unfold prfE; rw [if_neg (by rw [hch]; decide), if_neg (by simpa using g), if_pos hh]))
    go_wp2_with fail
    refine (hho.out _ exE).mono ?_; rintro e w3 ⟨rfl, hE3⟩
    have x23 : Ext w2 w3 := exE
    obtain ⟨y0, y1, y2, y3⟩ := rb.out.ext x23
    have o2 := x23.cell p0.out; have o3 := x23.cell p1.out; have o4 := x23.cell p2.out; have o5 := x23.cell p3.out
    have X3 := hid (X2.out.trans x23)
    have hP3 := hid (hP.out.ext x23)
    have hpi := isPf_iff.1 g.2
    have hc4 := hid (fun W (x : Ext w3 W) => value_any l u c hv.2.1 hv.2.2 s D d b le co ⟨hpi.1, ⟨by omega, hpi.2.1.2⟩, by omega, hpi.2.2.2⟩ W (hP3.out.ext x))
    have hvb := valP_bd hv.2.1 hv.2.2 g.2
    have hc5 := hid (fun W => by_any (valP u c b le co) d hvb.1 hvb.2 (by omega) (by omega) W)
    have hVV : b - le * u + co * c = valP u c b le co := by unfold valP; omega
    rw [hVV] at hc4
    obtain ⟨V, eV⟩ : ∃ V, valP u c b le co = V := ⟨_, rfl⟩
    rw [eV] at hp hc4 hc5
    obtain ⟨N, eN⟩ : ∃ N, ratN V d = N := ⟨_, rfl⟩
    obtain ⟨De, eD⟩ : ∃ N, ratD V d = N := ⟨_, rfl⟩
    rw [eN, eD] at hp hc5
    have XX := X3.out
    have z3 := cell_lt y0
    have z4 := cell_lt o2
    dsimp only at z3 z4
    have hg := hid g
    have hP0 := hid hP.out
    clear eN eD eV hVV hvb hpi hE3 x23 hho hv r0 r1 r2 r3 hh g hg2 z2 hd
    go_wp2_with fail
    go_region_held3 (fun w' => w'.cell? ⟨w.heap.size + 1, 0, none⟩ = some (.int .i64 d) ∧ w'.cell? ⟨w.heap.size + 1, 1, none⟩ = some (.int .i64 b) ∧ w'.cell? ⟨w.heap.size + 1, 2, none⟩ = some (.int .i64 le) ∧ w'.cell? ⟨w.heap.size + 1, 3, none⟩ = some (.int .i64 co) ∧ Ext w w') (((try go_split_ands); (repeat' apply And.intro) <;> (first | (with_reducible assumption) | (simp [go_sem, *]; done) | exact Ext.cell (w := w3) exE (by assumption) | exact exE))) (first | (go_at_call 74; refine (hc4.out _ exE).mono ?_; rintro e wd ⟨rfl, hEd⟩; have kd0 := hEd.cell y0; have kd1 := hEd.cell y1; have kd2 := (hEd.frozen (cell_lt y0)).trans y2; have kd3 := (hEd.frozen (cell_lt y1)).trans y3; have ka2 := hEd.cell o2; have ka3 := hEd.cell o3; have ka4 := hEd.cell o4; have ka5 := hEd.cell o5) | (go_at_call 60; refine (hc5.out _).mono ?_; rintro e we ⟨rfl, hEe⟩; have ke0 := hEe.cell kd0; have ke1 := hEe.cell kd1; have ke2 := (hEe.frozen (cell_lt kd0)).trans kd2; have ke3 := (hEe.frozen (cell_lt kd1)).trans kd3; have kb2 := hEe.cell ka2; have kb3 := hEe.cell ka3; have kb4 := hEe.cell ka4; have kb5 := hEe.cell ka5))
    all_goals
     go_wp2_with fail
     refine bodyPost_ret (v := .tuple #[.agg #[.int .i64 N, .int .i64 De], .int .i64 0]) ?_ rfl ?_
     ·simp [results, Try.results33, go_sem, *]
     ·exact ⟨by obtain ⟨h1, h2, h3⟩ := hp.out; rw [h1, h2, h3], by repeat (with_reducible first | assumption | refine Ext.drew ?_ | (refine Ext.setCell ?_ ?sz _; case sz => (simp; omega)) | refine Ext.trans ?_ (by assumption))⟩
  ·have hg2 : (dnB d && isPf b le co) = false := by rw [Bool.and_eq_false_iff]; by_cases h : dnB d = true; (exact .inr (by simpa using fun h2 => g ⟨h, h2⟩)); (exact .inl (by simpa using h))
   rw [hg2]
   have hp := hid (prf_no (show prfE l u c s d b le co = 3 by unfold prfE; rw [if_neg (by rw [hch]; decide), if_pos g]) (by decide))
   obtain ⟨c0, c1, f0, f1⟩ := rb
   go_wp2_with fail
   refine bodyPost_ret (v := .tuple #[.agg #[.int .i64 0, .int .i64 0], .int .i64 3]) (by simp [results, Try.results33, go_sem, *]) rfl ⟨by rw [hp.out.1, hp.out.2.1, hp.out.2.2], by have := X2.out; exact exE⟩
 ·have rb : Bx2 w1 (w.heap.size + 2) 0 0 := Bx2.ext ⟨by simp [go_sem], by simp [go_sem], by simp [go_sem], by simp [go_sem]⟩ hE
  have X1 := hid (show Ext w w1 from exE)
  have g1 : (chkB l u c != 0) = true := by simpa using hch
  have hp := hid (prf_no (show prfE l u c s d b le co = chkB l u c from if_pos hch) hch)
  obtain ⟨c0, c1, f0, f1⟩ := rb
  have z1 := cell_lt c0
  dsimp only at z1
  have hch := hid hch
  clear hE ho
  go_wp2_with fail
  refine bodyPost_ret (v := .tuple #[.agg #[.int .i64 0, .int .i64 0], .int .i64 (chkB l u c)]) (by simp [results, Try.results33, go_sem, *]) rfl ⟨by rw [hp.out.1, hp.out.2.1, hp.out.2.2], by have := X1.out; exact exE⟩
theorem zero_in (d : Int) : inR 0 0 d = decide (d = 0) := by
 unfold inR
 rw [Bool.eq_iff_iff]
 simp only [decide_eq_true_eq]
 omega
set_option maxHeartbeats 400000 in
theorem checkNever_any (l : List Met) (q : FitM l) (hl : l.length ≤ 1000) (a : Option Addr) (cap : Nat) (u c : Int) (iu : I64 u) (ic : I64 c) (s : Bool) (d b le co : Int) (qd : I64 d) (qb : I64 b) (ql : I64 le) (qc : I64 co) (w : World) (hM : Mts w a l) :
 Calls Try.prog 37 #[.slice a l.length cap, (.agg #[.int .i64 (u), .int .i64 (c)]), .bool s, (.agg #[.int .i64 (d), .int .i64 (b), .int .i64 (le), .int .i64 (co)])] w fun e w' => e = .returned (.int .i64 (nvrE l u c s d b le co)) ∧ Ext w w' := by
 have ho := hid (fun W (x : Ext w W) => open_any l q hl a cap u c iu ic s W (hM.ext x))
 have hnm := hid (fun W => numbers_any 0 0 d b le co qd qb ql qc W)
 rw [zero_in] at hnm
 clear q hM
 go_enter Try.func37, Try.ntmps37
 go_wp2_with fail
 refine (ho.out _ exE).mono ?_
 rintro e w1 (⟨hch, D, rfl, hP, hE⟩ | ⟨hch, rfl, hE⟩)
 ·have p0 := hE.cell (p := ⟨w.heap.size + 1, 0, none⟩) (v := .int .i64 d) (by simp [go_sem])
  have p1 := hE.cell (p := ⟨w.heap.size + 1, 1, none⟩) (v := .int .i64 b) (by simp [go_sem])
  have p2 := hE.cell (p := ⟨w.heap.size + 1, 2, none⟩) (v := .int .i64 le) (by simp [go_sem])
  have p3 := hE.cell (p := ⟨w.heap.size + 1, 3, none⟩) (v := .int .i64 co) (by simp [go_sem])
  have X1 := hid (show Ext w w1 from exE)
  have hP := hid hP
  clear hE ho
  go_wp2_with fail
  refine (hnm.out _).mono ?_; rintro e w2 ⟨rfl, hE⟩
  have x12 : Ext w1 w2 := exE
  have p0 := hid (x12.cell p0); have p1 := hid (x12.cell p1); have p2 := hid (x12.cell p2); have p3 := hid (x12.cell p3)
  have hP := hid (hP.out.ext x12)
  have X2 := hid (X1.out.trans x12)
  clear hE
  by_cases g : d = 0 ∧ isPf b le co = true
  ·obtain ⟨hd0, gp⟩ := g
   subst hd0
   rw [show (decide ((0 : Int) = 0) && isPf b le co) = true by rw [gp]; rfl]
   have hv := chkB_ok hch
   have r0 := p0.out; have r1 := p1.out; have r2 := p2.out; have r3 := p3.out
   have hho := hid (fun W (x : Ext w2 W) => holds_any l hv.1 u c s D 0 b le co (by omega) gp W (hP.out.ext x))
   cases hh : hld l s 0 b le co with
   | false =>
    rw [hh] at hho
    have hp := hid (show nvrE l u c s 0 b le co = 14 by unfold nvrE; rw [if_neg (by rw [hch]; decide), if_neg (fun h => h ⟨rfl, gp⟩), if_neg (by rw [hh]; simp)])
    go_wp2_with fail
    refine (hho.out _ exE).mono ?_; rintro e w3 ⟨rfl, hE3⟩
    have X3 := hid (X2.out.trans (show Ext w2 w3 from exE))
    clear hE3
    go_wp2_with fail
    go_ret
    exact ⟨ret_int hp.out.symm, X3.out⟩
   | true =>
    rw [hh] at hho
    have hpi := isPf_iff.1 gp
    have hN : Hid (nvrE l u c s 0 b le co = if 0 < valP u c b le co then 0 else 14) := hid (by unfold nvrE; rw [if_neg (by rw [hch]; decide), if_neg (fun h => h ⟨rfl, gp⟩)]; simp [hh])
    go_wp2_with fail
    refine (hho.out _ exE).mono ?_; rintro e w3 ⟨rfl, hE3⟩
    have x23 : Ext w2 w3 := exE
    have o2 := x23.cell p0.out; have o3 := x23.cell p1.out; have o4 := x23.cell p2.out; have o5 := x23.cell p3.out
    have X3 := hid (X2.out.trans x23)
    have hP3 := hid (hP.out.ext x23)
    have hc4 := hid (fun W (x : Ext w3 W) => value_any l u c hv.2.1 hv.2.2 s D 0 b le co ⟨hpi.1, ⟨by omega, hpi.2.1.2⟩, by omega, hpi.2.2.2⟩ W (hP3.out.ext x))
    change Hid (∀ W, Ext w3 W → Calls Try.prog 74 #[(.pointer (some ⟨D, 0, none⟩)), (.agg #[.int .i64 (0), .int .i64 (b), .int .i64 (le), .int .i64 (co)])] W fun e w' => e = .returned (.int .i64 (valP u c b le co)) ∧ Ext W w') at hc4
    obtain ⟨V, eV⟩ : ∃ V, valP u c b le co = V := ⟨_, rfl⟩
    rw [eV] at hN hc4
    have hg := hid gp
    clear hE3 hho hv r0 r1 r2 r3 hh gp hpi eV
    go_wp2_with fail
    refine (hc4.out _ exE).mono ?_; rintro e w4 ⟨rfl, hE4⟩
    have X4 := hid (X3.out.trans (show Ext w3 w4 from exE))
    clear hE4 o2 o3 o4 o5 x23
    by_cases hV : 0 < V
    ·rw [if_pos hV] at hN
     have hV2 : ¬ V ≤ 0 := by omega
     go_wp2_with fail
     go_ret
     exact ⟨ret_int hN.out.symm, X4.out⟩
    ·rw [if_neg hV] at hN
     have hV2 : V ≤ 0 := by omega
     go_wp2_with fail
     go_ret
     exact ⟨ret_int hN.out.symm, X4.out⟩
  ·have hg2 : (decide (d = 0) && isPf b le co) = false := by
    rw [Bool.and_eq_false_iff]
    by_cases h : d = 0
    ·exact .inr (by simpa using fun h2 => g ⟨h, h2⟩)
    ·exact .inl (by simpa using h)
   rw [hg2]
   have hp := hid (show nvrE l u c s d b le co = 3 by unfold nvrE; rw [if_neg (by rw [hch]; decide), if_pos g])
   go_wp2_with fail
   go_ret
   exact ⟨ret_int hp.out.symm, X2.out⟩
 ·have X1 := hid (show Ext w w1 from exE)
  have g1 : (chkB l u c != 0) = true := by simpa using hch
  have hp := hid (show nvrE l u c s d b le co = chkB l u c from if_pos hch)
  have hch := hid hch
  clear hE ho
  go_wp2_with fail
  go_ret
  exact ⟨ret_int hp.out.symm, X1.out⟩
end Go.Proofs.Ytpnfhcnnodolbaa
