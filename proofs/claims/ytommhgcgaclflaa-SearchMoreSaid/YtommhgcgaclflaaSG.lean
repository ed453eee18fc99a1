/- What a plan loses, of the program. -/
import Derived.Test.YtommhgcgaclflaaZB7
import Derived.Test.YtommhgcgaclflaaZB12
import Derived.Lib.SliceRun
namespace Go.Proofs.Ytommhgcgaclflaa
set_option linter.unusedVariables false
set_option linter.unusedSimpArgs false
set_option linter.unusedSectionVars false
set_option linter.unnecessarySimpa false
open Go Go.RowKit Game
set_option maxRecDepth 100000

theorem setCell_self {w : World} {b o : Nat} {v : Value} (h : w.cell? ⟨b, o, none⟩ = some v) : w.setCell ⟨b, o, none⟩ v = w := by
 unfold World.cell? at h
 unfold World.setCell
 have : w.heap.modify b (fun x => match x with | .cells c elem frozen => .cells (c.setIfInBounds o v) elem frozen | x => x) = w.heap := by
  apply Array.ext_getElem?
  intro i
  rw [Array.getElem?_modify]
  split
  ·rename_i e
   subst e
   dsimp only at h
   cases hb : w.heap[b]? with
   | none => rfl
   | some ob =>
    rw [hb] at h
    cases ob with
    | cells c elem fz =>
     simp at h
     simp only [Option.map_some, Option.some.injEq, Obj.cells.injEq, and_true]
     apply Array.ext_getElem?
     intro j
     rw [Array.getElem?_setIfInBounds]
     split
     ·rename_i e; subst e
      rw [if_pos (Array.getElem?_eq_some_iff.1 h).1, h]
     ·rfl
    | _ => rfl
  ·rfl
 exact congrArg (fun hp => ({ w with heap := hp } : World)) this
theorem setCells_self {b : Nat} : ∀ (vs : List Value) (o : Nat) (w : World), (∀ j u, vs[j]? = some u → w.cell? ⟨b, o + j, none⟩ = some u) → w.setCells b o vs = w
 | [], _, _, _ => rfl
 | v :: vs, o, w, h => by
  have h0 := h 0 v rfl
  simp only [World.setCells]
  rw [setCell_self (by simpa using h0)]
  exact setCells_self vs (o + 1) w fun j u hu => by
   have := h (j + 1) u hu
   rwa [show o + (j + 1) = o + 1 + j by omega] at this

def accF (t : List (List Int)) (p : List Int) (i k : Nat) : Int := if k < wid t then sm i (fun a => nth p a * ent t a k) else 0
theorem accF_zero (t : List (List Int)) (p : List Int) (k : Nat) : accF t p 0 k = 0 := by unfold accF; split <;> rfl
theorem accF_step {t : List (List Int)} {p : List Int} {i k : Nat} (h : k < wid t) : accF t p (i + 1) k = accF t p i k + nth p i * ent t i k := by
 unfold accF; rw [if_pos h, if_pos h]; rfl
theorem accF_end {t : List (List Int)} {p : List Int} {k : Nat} (h : k < wid t) : accF t p p.length k = agn t p k := by unfold accF; rw [if_pos h]; rfl
theorem accF_out {t : List (List Int)} {p : List Int} {i k : Nat} (h : ¬ k < wid t) : accF t p i k = 0 := by unfold accF; rw [if_neg h]
theorem mul_bd {a b A B : Int} (a0 : 0 ≤ a) (a1 : a ≤ A) (b0 : -B ≤ b) (b1 : b ≤ B) (hB : 0 ≤ B) : -(A * B) ≤ a * b ∧ a * b ≤ A * B := by
 have h1 := Int.mul_le_mul_of_nonneg_left b1 a0
 have h2 := Int.mul_le_mul_of_nonneg_left b0 a0
 have h3 := Int.mul_le_mul_of_nonneg_right a1 hB
 rw [Int.mul_neg] at h2
 omega
theorem accF_bd {t : List (List Int)} (v : VldT t) {p : List Int} (hp : ∀ i, 0 ≤ nth p i ∧ nth p i ≤ 100000000) (k : Nat) : ∀ i : Nat, -(10000000000 * (i : Int)) ≤ accF t p i k ∧ accF t p i k ≤ 10000000000 * (i : Int)
 | 0 => by rw [accF_zero]; omega
 | i + 1 => by
  have ih := accF_bd v hp k i
  by_cases h : k < wid t
  ·rw [accF_step h]
   have := mul_bd (B := 100) (hp i).1 (hp i).2 (v.lo i k) (v.hi i k) (by omega)
   omega
  ·rw [accF_out h]; omega
def mixF (t : List (List Int)) (p : List Int) (i j k : Nat) : Int := if k < j then accF t p (i + 1) k else accF t p i k
theorem mixF_zero (t : List (List Int)) (p : List Int) (i k : Nat) : mixF t p i 0 k = accF t p i k := by unfold mixF; rw [if_neg (by omega)]
theorem mixF_at (t : List (List Int)) (p : List Int) (i j : Nat) : mixF t p i j j = accF t p i j := by unfold mixF; rw [if_neg (by omega)]
theorem mixF_end (t : List (List Int)) (p : List Int) (i k : Nat) : mixF t p i (wid t) k = accF t p (i + 1) k := by
 unfold mixF; split
 ·rfl
 ·rename_i h; rw [accF_out h, accF_out h]
theorem mixF_step (t : List (List Int)) (p : List Int) (i j k : Nat) : mixF t p i (j + 1) k = if k = j then accF t p (i + 1) j else mixF t p i j k := by
 unfold mixF
 by_cases h : k = j
 ·subst h; rw [if_pos (by omega), if_pos rfl]
 ·rw [if_neg h]
  by_cases g : k < j
  ·rw [if_pos (by omega), if_pos g]
  ·rw [if_neg (by omega), if_neg g]
structure Arr (w : World) (X : Nat) (f : Nat → Int) : Prop where
 c : ∀ k, k < 4 → w.cell? ⟨X, k, none⟩ = some (.int .i64 (f k))
 f : ∀ k, k < 4 → w.frozen? ⟨X, k, none⟩ = false
 l : X < w.heap.size
theorem Arr.ext {w w' : World} {X : Nat} {f : Nat → Int} (h : Arr w X f) (k : Ext w w') : Arr w' X f :=
 ⟨fun i hi => k.cell (h.c i hi), fun i hi => (k.frozen h.l).trans (h.f i hi), Nat.lt_of_lt_of_le h.l k.size⟩
theorem Arr.congr {w : World} {X : Nat} {f g : Nat → Int} (h : Arr w X f) (e : ∀ k, k < 4 → f k = g k) : Arr w X g :=
 ⟨fun i hi => by rw [← e i hi]; exact h.c i hi, h.f, h.l⟩
theorem Arr.set {w : World} {X : Nat} {f : Nat → Int} (h : Arr w X f) {j : Nat} (hj : j < 4) (y : Int) : Arr (w.setCell ⟨X, j, none⟩ (.int .i64 y)) X (fun k => if k = j then y else f k) := by
 refine ⟨fun k hk => ?_, fun k hk => ?_, by simpa using h.l⟩
 ·by_cases e : k = j
  ·subst e; simp [go_sem, h.c k hk]
  ·have e2 : ¬ j = k := fun h => e h.symm
   simp [go_sem, h.c k hk, e, e2]
 ·have := h.f k hk
  simpa [go_sem] using this

set_option maxHeartbeats 2000000 in
theorem against_any (t : List (List Int)) (v : VldT t) (p : List Int) (hp : ∀ i, 0 ≤ nth p i ∧ nth p i ≤ 100000000) (hl : p.length = t.length) (D0 : Nat) (a2 : Option Addr) (c2 : Nat) (w : World) (hD : Dsk w D0 t) (hI : Ints w a2 p) :
 Calls Try.prog 76 #[.pointer (some ⟨D0, 0, none⟩), .slice a2 p.length c2] w fun e w' => e = .returned (.agg #[.int .i64 (accF t p p.length 0), .int .i64 (accF t p p.length 1), .int .i64 (accF t p p.length 2), .int .i64 (accF t p p.length 3)]) ∧ Ext w w' := by
 have m1 := v.m1; have m4 := v.m4; have n1 := v.n1; have n4 := v.n4
 obtain ⟨a, cap, hc, hT⟩ := hD
 obtain ⟨b, off, B, O, C, rfl, hb, hcc⟩ := hT.full (by omega) v.eq (by omega)
 obtain ⟨b2, o2, rfl, hb2, hpc⟩ := hI.at (by omega)
 have HC := hid hcc
 have HP := hid hpc
 clear hcc hT hpc hI
 have hDl := cell_lt hc
 simp only at hDl
 have hq := hid hp
 clear hp
 have hll := hid hl
 obtain ⟨m, hm⟩ : ∃ m, p.length = m := ⟨_, rfl⟩
 have hmm := hid hm
 rw [hm] at hl
 rw [hm]
 have m1' : 1 ≤ m := by omega
 have m4' : m ≤ 4 := by omega
 replace hl := hid hl
 clear hm
 obtain ⟨w0, hw0⟩ : ∃ w0, w0 = (w.alloc (.cells #[.int .i64 0, .int .i64 0, .int .i64 0, .int .i64 0] 85)).alloc (.cells #[.int .i64 0, .int .i64 0, .int .i64 0, .int .i64 0] 85) := ⟨_, rfl⟩
 have four : ∀ k, k < 4 → k = 0 ∨ k = 1 ∨ k = 2 ∨ k = 3 := fun k hk => by omega
 have hA : Arr w0 (w.heap.size + 1) (fun _ => 0) := by
  rw [hw0]
  refine ⟨fun k hk => ?_, fun k hk => ?_, by simp⟩
  ·rcases four k hk with rfl | rfl | rfl | rfl <;> simp [go_sem]
  ·simp [go_sem]
 have x0 : Ext w w0 := by rw [hw0]; exact (by repeat (with_reducible first | assumption | exact Ext.refl _ | refine Ext.drew ?_ | refine Ext.drewN ?_ _ | refine Ext.alloc ?_ _ | refine xS ?_ _ | refine xT ?_ (by assumption)))
 have r0 : ∀ k, k < 4 → w0.cell? ⟨w.heap.size, k, none⟩ = some (.int .i64 0) ∧ w0.frozen? ⟨w.heap.size, k, none⟩ = false := by
  rw [hw0]
  intro k hk
  rcases four k hk with rfl | rfl | rfl | rfl <;> simp [go_sem]
 have hcl : ∀ ty, (Builtin.clear_ #[25] ty #[.slice (some ⟨w.heap.size + 1, 0, none⟩) 4 4]).run Try.prog ((w.alloc (.cells #[.int .i64 0, .int .i64 0, .int .i64 0, .int .i64 0] 85)).alloc (.cells #[.int .i64 0, .int .i64 0, .int .i64 0, .int .i64 0] 85)) = .ok (.tuple #[]) ((w.alloc (.cells #[.int .i64 0, .int .i64 0, .int .i64 0, .int .i64 0] 85)).alloc (.cells #[.int .i64 0, .int .i64 0, .int .i64 0, .int .i64 0] 85)) := by
  intro ty
  have hz := hA.c
  have hf := hA.f
  rw [hw0] at hz hf
  rw [Lib.run_clear_slice _ 25 2 ty (.int .i64 0) Try.underlying25 (fun w => by kernel_rfl) rfl rfl _ _ 4 4 (by omega) (fun j hj => by rw [Nat.zero_add, hz j hj]; rfl) (fun j hj => by rw [Nat.zero_add]; exact hf j hj)]
  rw [setCells_self]
  intro j u hu
  obtain ⟨hj, rfl⟩ := List.getElem?_eq_some_iff.1 hu
  rw [Nat.zero_add, hz j (by simpa using hj)]
  simp only [List.getElem_replicate]
 go_enter Try.func76, Try.ntmps76
 go_wp2_with fail
 rw [← hw0]
 have hs0 : w0.heap.size = w.heap.size + 2 := by rw [hw0]; simp
 clear hcl hw0
 obtain ⟨X, hX⟩ : ∃ X, X = w.heap.size + 1 := ⟨_, rfl⟩
 obtain ⟨R, hR⟩ : ∃ R, R = w.heap.size := ⟨_, rfl⟩
 rw [← hX, ← hR]
 rw [← hX] at hA
 rw [← hR] at r0
 have hRX : R < X := by omega
 have hXw : w.heap.size ≤ X := by omega
 have hRw : w.heap.size ≤ R := by omega
 replace hX := hid hX
 replace hR := hid hR
 clear hs0
 have hA0 := hid (hA.congr fun k _ => (accF_zero t p k).symm)
 have r0 := hid r0
 clear hA
 go_loopw [13] (fun i wr => ∃ i0 : Nat, i0 ≤ m ∧ i = .int .i64 i0 ∧ Hid (Arr wr X (accF t p i0)) ∧ Hid (∀ k, k < 4 → wr.cell? ⟨R, k, none⟩ = some (.int .i64 0) ∧ wr.frozen? ⟨R, k, none⟩ = false) ∧ Ext w wr) (fun i _ => (m - intOf i).toNat)
 case atStart => exact ⟨0, by omega, rfl, hA0, r0, x0⟩
 case round =>
  obtain ⟨i, hi, rfl, hA, hr, hw⟩ := hrel
  have e0 := hw.cell hc
  by_cases hlt : i < m
  ·have hil : i < t.length := by have := hl.out; omega
   obtain ⟨p0, _, p1⟩ := HC.out i hil
   have p0 := hw.cell p0
   have pp := hw.cell (HP.out i (by have := hmm.out; omega))
   have bi := hq.out i
   have HW := hid hw
   have hw1 := hw
   obtain ⟨w1, rfl⟩ : ∃ w1 : World, w1 = wr := ⟨_, rfl⟩
   clear hw hw1
   obtain ⟨x, hx⟩ : ∃ x, nth p i = x := ⟨_, rfl⟩
   rw [hx] at pp bi
   replace hx := hid hx
   go_wp2_with fail
   go_loopw [27] (fun j wr => ∃ j0 : Nat, j0 ≤ wid t ∧ j = .int .i64 j0 ∧ Hid (Arr wr X (mixF t p i j0)) ∧ Hid (∀ k, k < 4 → wr.cell? ⟨R, k, none⟩ = some (.int .i64 0) ∧ wr.frozen? ⟨R, k, none⟩ = false) ∧ Ext w wr) (fun j _ => (wid t - intOf j).toNat)
   case atStart => exact ⟨0, by omega, rfl, hid (hA.out.congr fun k _ => (mixF_zero t p i k).symm), hr, HW.out⟩
   case round =>
    obtain ⟨j, hj, rfl, hA2, hr2, hv⟩ := hrel
    by_cases hjl : j < wid t
    ·have q1 := hv.cell (p1 j hjl)
     have q2 := hA2.out.c j (by omega)
     have q3 := hA2.out.f j (by omega)
     rw [mixF_at t p i j] at q2
     have hst := hid (accF_step (t := t) (p := p) (i := i) hjl)
     have b1 := accF_bd v hq.out j i
     have b2 := mul_bd (B := 100) bi.1 bi.2 (v.lo i j) (v.hi i j) (by omega)
     have hmx := hid (fun k => mixF_step t p i j k)
     rw [hx.out] at hst
     obtain ⟨y, hy⟩ : ∃ y, ent t i j = y := ⟨_, rfl⟩
     obtain ⟨z, hz⟩ : ∃ z, accF t p i j = z := ⟨_, rfl⟩
     rw [hy] at q1 b2 hst
     rw [hz] at q2 b1 hst
     replace hy := hid hy
     replace hz := hid hz
     have HV := hid hv
     have z1 := Go.IntWalk.i64_in (x * y) (by omega)
     have z2 := Go.IntWalk.i64_in (z + x * y) (by omega)
     clear hv
     go_wp2_with fail
     go_roundw
     case rel => exact ⟨j + 1, by omega, by go_num, hid ((hA2.out.set (j := j) (by omega) (z + x * y)).congr fun k hk => by rw [hmx.out k, hst.out]), hid fun k hk => by
      obtain ⟨u1, u2⟩ := hr2.out k hk
      have hne : ¬ R = X := by omega
      exact ⟨by simp [go_sem, u1, hne], by simpa [go_sem] using u2⟩, by have := HV.out; exact (by repeat (with_reducible first | assumption | exact Ext.refl _ | refine Ext.drew ?_ | refine Ext.drewN ?_ _ | refine Ext.alloc ?_ _ | refine xS ?_ _ | refine xT ?_ (by assumption)))⟩
     case measure => simp [intOf]; omega
    ·obtain rfl : j = wid t := by omega
     have hA3 := hid (hA2.out.congr fun k hk => mixF_end t p i k)
     have HV := hid hv
     clear hv
     go_wp2_with fail
     go_roundw
     case rel => exact ⟨i + 1, by omega, by go_num, hA3.out, hr2, HV.out⟩
     case measure => simp [intOf]; omega
  ·obtain rfl : i = m := by omega
   have q0 := hA.out.c 0 (by omega)
   have q1 := hA.out.c 1 (by omega)
   have q2 := hA.out.c 2 (by omega)
   have q3 := hA.out.c 3 (by omega)
   obtain ⟨u0, v0⟩ := hr.out 0 (by omega)
   obtain ⟨u1, v1⟩ := hr.out 1 (by omega)
   obtain ⟨u2, v2⟩ := hr.out 2 (by omega)
   obtain ⟨u3, v3⟩ := hr.out 3 (by omega)
   have HW := hid hw
   clear hw hA hr
   obtain ⟨z0, h0⟩ : ∃ z, accF t p i 0 = z := ⟨_, rfl⟩
   rw [h0] at q0
   replace h0 := hid h0
   obtain ⟨z1, h1⟩ : ∃ z, accF t p i 1 = z := ⟨_, rfl⟩
   rw [h1] at q1
   replace h1 := hid h1
   obtain ⟨z2, h2⟩ : ∃ z, accF t p i 2 = z := ⟨_, rfl⟩
   rw [h2] at q2
   replace h2 := hid h2
   obtain ⟨z3, h3⟩ : ∃ z, accF t p i 3 = z := ⟨_, rfl⟩
   rw [h3] at q3
   replace h3 := hid h3
   go_wp2_with fail
   refine bodyPost_ret (v := .agg #[.int .i64 z0, .int .i64 z1, .int .i64 z2, .int .i64 z3]) ?_ rfl ?_
   ·simp [results, Try.results76, go_sem, *]
   ·exact ⟨by rw [h0.out, h1.out, h2.out, h3.out], by have := HW.out; exact (by repeat (with_reducible first | assumption | exact Ext.refl _ | refine Ext.drew ?_ | refine Ext.drewN ?_ _ | refine Ext.alloc ?_ _ | refine xS ?_ _ | refine xT ?_ (by assumption)))⟩

end Go.Proofs.Ytommhgcgaclflaa
