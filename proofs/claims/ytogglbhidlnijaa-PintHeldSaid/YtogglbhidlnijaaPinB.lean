/- The program's table of a measure. -/
import Derived.Test.YtogglbhidlnijaaPinA
import Derived.StillTailTactics
import Derived.Lib.SliceRun
namespace Go.Proofs.Ytogglbhidlnijaa
set_option linter.unusedVariables false
set_option linter.unusedSimpArgs false
set_option linter.unusedSectionVars false
set_option linter.unnecessarySimpa false
open Go Go.RowKit

/-- The table of a measure lies in a block. -/
structure TabF (w : World) (tb : Nat) (m : Meas) (t : Int) (a : Option Addr) (cap : Nat) (fl fr fd : Nat → Int) : Prop where
  c0 : w.cell? ⟨tb, 0, none⟩ = some (.int .i64 m.L)
  c1 : w.cell? ⟨tb, 1, none⟩ = some (.int .i64 m.R)
  c2 : w.cell? ⟨tb, 2, none⟩ = some (.slice a m.hs.length cap)
  c3 : w.cell? ⟨tb, 3, none⟩ = some (.int .i64 t)
  cl : ∀ j, j < 8 → w.cell? ⟨tb, 4 + j, none⟩ = some (.int .i64 (fl j))
  cr : ∀ j, j < 8 → w.cell? ⟨tb, 12 + j, none⟩ = some (.int .i64 (fr j))
  cd : ∀ j, j < 8 → w.cell? ⟨tb, 20 + j, none⟩ = some (.int .i64 (fd j))
  fz : ∀ o, w.frozen? ⟨tb, o, none⟩ = false
theorem TabF.lt {w : World} {tb : Nat} {m : Meas} {t : Int} {a : Option Addr} {cap : Nat} {fl fr fd : Nat → Int} (h : TabF w tb m t a cap fl fr fd) : tb < w.heap.size := cell_lt h.c0
theorem TabF.ext {w w' : World} {tb : Nat} {m : Meas} {t : Int} {a : Option Addr} {cap : Nat} {fl fr fd : Nat → Int} (h : TabF w tb m t a cap fl fr fd) (k : Ext w w') : TabF w' tb m t a cap fl fr fd :=
  ⟨k.cell h.c0, k.cell h.c1, k.cell h.c2, k.cell h.c3, fun j hj => k.cell (h.cl j hj), fun j hj => k.cell (h.cr j hj), fun j hj => k.cell (h.cd j hj), fun o => (k.frozen h.lt).trans (h.fz o)⟩
theorem cell_put_ne {w : World} {b o o' : Nat} {v : Value} (h : o ≠ o') : (w.setCell ⟨b, o', none⟩ v).cell? ⟨b, o, none⟩ = w.cell? ⟨b, o, none⟩ := by
  unfold World.cell? World.setCell
  simp only [Array.getElem?_modify, if_true]
  cases w.heap[b]? with
  | none => rfl
  | some ob => cases ob <;> simp [Ne.symm h]
theorem cell_put_eq {w : World} {p : Addr} {u v : Value} (h : w.cell? p = some u) : (w.setCell p v).cell? p = some v := World.cell?_setCell_same' _ _ _ (by rw [h]; rfl)
theorem frz_put {w : World} {p p' : Addr} {v : Value} : (w.setCell p' v).frozen? p = w.frozen? p := World.frozen?_setCell ..
def upd (f : Nat → Int) (k : Nat) (x : Int) : Nat → Int := fun j => if j = k then x else f j
theorem TabF.putL {w : World} {tb : Nat} {m : Meas} {t : Int} {a : Option Addr} {cap : Nat} {fl fr fd : Nat → Int} (h : TabF w tb m t a cap fl fr fd) {k : Nat} (hk : k < 8) (x : Int) :
    TabF (w.setCell ⟨tb, 4 + k, none⟩ (.int .i64 x)) tb m t a cap (upd fl k x) fr fd := by
  refine ⟨(cell_put_ne (by omega)).trans h.c0, (cell_put_ne (by omega)).trans h.c1, (cell_put_ne (by omega)).trans h.c2, (cell_put_ne (by omega)).trans h.c3, fun j hj => ?_,
    fun j hj => (cell_put_ne (by omega)).trans (h.cr j hj), fun j hj => (cell_put_ne (by omega)).trans (h.cd j hj), fun o => frz_put.trans (h.fz o)⟩
  by_cases e : j = k
  · subst e; rw [cell_put_eq (h.cl j hj)]; simp [upd]
  · rw [cell_put_ne (by omega), h.cl j hj]; simp [upd, e]
theorem TabF.putR {w : World} {tb : Nat} {m : Meas} {t : Int} {a : Option Addr} {cap : Nat} {fl fr fd : Nat → Int} (h : TabF w tb m t a cap fl fr fd) {k : Nat} (hk : k < 8) (x : Int) :
    TabF (w.setCell ⟨tb, 12 + k, none⟩ (.int .i64 x)) tb m t a cap fl (upd fr k x) fd := by
  refine ⟨(cell_put_ne (by omega)).trans h.c0, (cell_put_ne (by omega)).trans h.c1, (cell_put_ne (by omega)).trans h.c2, (cell_put_ne (by omega)).trans h.c3, 
    fun j hj => (cell_put_ne (by omega)).trans (h.cl j hj), fun j hj => ?_, fun j hj => (cell_put_ne (by omega)).trans (h.cd j hj), fun o => frz_put.trans (h.fz o)⟩
  by_cases e : j = k
  · subst e; rw [cell_put_eq (h.cr j hj)]; simp [upd]
  · rw [cell_put_ne (by omega), h.cr j hj]; simp [upd, e]
theorem TabF.putD {w : World} {tb : Nat} {m : Meas} {t : Int} {a : Option Addr} {cap : Nat} {fl fr fd : Nat → Int} (h : TabF w tb m t a cap fl fr fd) {k : Nat} (hk : k < 8) (x : Int) :
    TabF (w.setCell ⟨tb, 20 + k, none⟩ (.int .i64 x)) tb m t a cap fl fr (upd fd k x) := by
  refine ⟨(cell_put_ne (by omega)).trans h.c0, (cell_put_ne (by omega)).trans h.c1, (cell_put_ne (by omega)).trans h.c2, (cell_put_ne (by omega)).trans h.c3, 
    fun j hj => (cell_put_ne (by omega)).trans (h.cl j hj), fun j hj => (cell_put_ne (by omega)).trans (h.cr j hj), fun j hj => ?_, fun o => frz_put.trans (h.fz o)⟩
  by_cases e : j = k
  · subst e; rw [cell_put_eq (h.cd j hj)]; simp [upd]
  · rw [cell_put_ne (by omega), h.cd j hj]; simp [upd, e]

set_option maxHeartbeats 400000 in
theorem at_any (m : Meas) (v : Vld m) (tb : Nat) (a : Option Addr) (cap : Nat) (t i : Int) (w : World) (hI : Ints w a m.hs)
    (c0 : w.cell? ⟨tb, 0, none⟩ = some (.int .i64 m.L)) (c1 : w.cell? ⟨tb, 1, none⟩ = some (.int .i64 m.R)) (c2 : w.cell? ⟨tb, 2, none⟩ = some (.slice a m.hs.length cap)) (c3 : w.cell? ⟨tb, 3, none⟩ = some (.int .i64 t))
    (h0 : -20 ≤ t) (h1 : t ≤ 20) (h2 : -1 ≤ i) (h3 : i ≤ 8) :
    Calls Try.prog 76 #[.pointer (some ⟨tb, 0, none⟩), .int .i64 i] w fun e w' => e = .returned (.int .i64 (hAt m t i)) ∧ w = w' := by
  obtain ⟨q0, q1⟩ := mul_bd t i h0 h1 h2 h3
  have l0 := v.l0; have l1 := v.l1; have r0 := v.r0; have r1 := v.r1
  have n8 := v.n8
  by_cases g1 : i < 0
  · have H := hid (hAt_neg (m := m) (t := t) g1)
    go_enter Try.func76, Try.ntmps76
    go_wp2
    go_ret
    exact ⟨ret_int H.out.symm, rfl⟩
  · obtain ⟨k, rfl⟩ := Int.eq_ofNat_of_zero_le (show 0 ≤ i by omega)
    by_cases g2 : m.hs.length ≤ k
    · have H := hid (hAt_end (m := m) (t := t) (i := (k : Int)) (by omega) (by omega))
      go_enter Try.func76, Try.ntmps76
      go_wp2
      go_ret
      exact ⟨ret_int H.out.symm, rfl⟩
    · have H := hid (hAt_mid (m := m) (t := t) (i := (k : Int)) (by omega) (by omega))
      obtain ⟨b, off, rfl, hb, hc⟩ := hI.at (by omega)
      have hck := hc k (by omega)
      have e0 := v.h0 k; have e1 := v.h1 k
      clear hc hI
      go_enter Try.func76, Try.ntmps76
      go_wp2
      go_ret
      exact ⟨ret_int H.out.symm, rfl⟩

/-- The table of a valid measure. -/
def fL (m : Meas) (t : Int) (k j : Nat) : Int := if j < k then tl m t (j + 1) else 0
def fR (m : Meas) (t : Int) (k j : Nat) : Int := if m.hs.length - k ≤ j ∧ j < m.hs.length then topR m t j else 0
def fD (m : Meas) (t : Int) (k j : Nat) : Int := if m.hs.length - k ≤ j ∧ j < m.hs.length then depth m t j else 0
def Tab (w : World) (tb : Nat) (m : Meas) (t : Int) (a : Option Addr) (cap : Nat) : Prop := TabF w tb m t a cap (fL m t m.hs.length) (fR m t m.hs.length) (fD m t m.hs.length)
def RetTab (m : Meas) (t : Int) (a : Option Addr) (cap : Nat) (w : World) (e : Ending) (w' : World) : Prop := ∃ tb, e = .returned (.pointer (some ⟨tb, 0, none⟩)) ∧ Tab w' tb m t a cap ∧ Ext w w'

theorem TabF.congr {w : World} {tb : Nat} {m : Meas} {t : Int} {a : Option Addr} {cap : Nat} {fl fr fd fl' fr' fd' : Nat → Int} (h : TabF w tb m t a cap fl fr fd)
    (e1 : ∀ j, j < 8 → fl j = fl' j) (e2 : ∀ j, j < 8 → fr j = fr' j) (e3 : ∀ j, j < 8 → fd j = fd' j) : TabF w tb m t a cap fl' fr' fd' :=
  ⟨h.c0, h.c1, h.c2, h.c3, fun j hj => by rw [← e1 j hj]; exact h.cl j hj, fun j hj => by rw [← e2 j hj]; exact h.cr j hj, fun j hj => by rw [← e3 j hj]; exact h.cd j hj, h.fz⟩

theorem setCell_self {w : World} {b o : Nat} {v : Value} (h : w.cell? ⟨b, o, none⟩ = some v) : w.setCell ⟨b, o, none⟩ v = w := by
  unfold World.cell? at h
  unfold World.setCell
  have : w.heap.modify b (fun x => match x with | .cells c elem frozen => .cells (c.setIfInBounds o v) elem frozen | x => x) = w.heap := by
    apply Array.ext_getElem?
    intro i
    rw [Array.getElem?_modify]
    split
    · rename_i e
      subst e
      dsimp only at h
      cases hb : w.heap[b]? with
      | none => rfl
      | some ob =>
        rw [hb] at h
        cases ob with
        | cells c elem fz =>
          simp at h
          simp only [Option.map_some, Option.some.injEq, Obj.cells.injEq, and_true]
          apply Array.ext_getElem?
          intro j
          rw [Array.getElem?_setIfInBounds]
          split
          · rename_i e; subst e
            rw [if_pos (Array.getElem?_eq_some_iff.1 h).1, h]
          · rfl
        | _ => rfl
    · rfl
  exact congrArg (fun hp => ({ w with heap := hp } : World)) this
theorem setCells_self {b : Nat} : ∀ (vs : List Value) (o : Nat) (w : World), (∀ j u, vs[j]? = some u → w.cell? ⟨b, o + j, none⟩ = some u) → w.setCells b o vs = w
  | [], _, _, _ => rfl
  | v :: vs, o, w, h => by
    have h0 := h 0 v rfl
    simp only [World.setCells]
    rw [setCell_self (by simpa using h0)]
    exact setCells_self vs (o + 1) w fun j u hu => by
      have := h (j + 1) u hu
      rwa [show o + (j + 1) = o + 1 + j by omega] at this

theorem tab_start (m : Meas) (a : Option Addr) (cap : Nat) (t : Int) (w : World) : TabF (w.alloc (.cells #[.int .i64 m.L, .int .i64 m.R, .slice a m.hs.length cap, .int .i64 t, .int .i64 0, .int .i64 0, .int .i64 0, .int .i64 0, .int .i64 0, .int .i64 0, .int .i64 0, .int .i64 0, .int .i64 0, .int .i64 0, .int .i64 0, .int .i64 0, .int .i64 0, .int .i64 0, .int .i64 0, .int .i64 0, .int .i64 0, .int .i64 0, .int .i64 0, .int .i64 0, .int .i64 0, .int .i64 0, .int .i64 0, .int .i64 0] 93)) w.heap.size m t a cap (fL m t 0) (fR m t 0) (fD m t 0) := by
  have hz : ∀ o, o < 24 → (w.alloc (.cells #[.int .i64 m.L, .int .i64 m.R, .slice a m.hs.length cap, .int .i64 t, .int .i64 0, .int .i64 0, .int .i64 0, .int .i64 0, .int .i64 0, .int .i64 0, .int .i64 0, .int .i64 0, .int .i64 0, .int .i64 0, .int .i64 0, .int .i64 0, .int .i64 0, .int .i64 0, .int .i64 0, .int .i64 0, .int .i64 0, .int .i64 0, .int .i64 0, .int .i64 0, .int .i64 0, .int .i64 0, .int .i64 0, .int .i64 0] 93)).cell? ⟨w.heap.size, 4 + o, none⟩ = some (.int .i64 0) := by
    intro o ho
    rw [World.cell?_alloc_at _ _ _ _ rfl]
    have : o = 0 ∨ o = 1 ∨ o = 2 ∨ o = 3 ∨ o = 4 ∨ o = 5 ∨ o = 6 ∨ o = 7 ∨ o = 8 ∨ o = 9 ∨ o = 10 ∨ o = 11 ∨ o = 12 ∨ o = 13 ∨ o = 14 ∨ o = 15 ∨ o = 16 ∨ o = 17 ∨ o = 18 ∨ o = 19 ∨ o = 20 ∨ o = 21 ∨ o = 22 ∨ o = 23 := by omega
    rcases this with rfl | rfl | rfl | rfl | rfl | rfl | rfl | rfl | rfl | rfl | rfl | rfl | rfl | rfl | rfl | rfl | rfl | rfl | rfl | rfl | rfl | rfl | rfl | rfl <;> rfl
  refine ⟨by simp [go_sem], by simp [go_sem], by simp [go_sem], by simp [go_sem], fun j hj => ?_, fun j hj => ?_, fun j hj => ?_, fun o => by simp [go_sem]⟩
  · rw [hz j (by omega)]; simp [fL]
  · rw [show 12 + j = 4 + (8 + j) by omega, hz (8 + j) (by omega)]; unfold fR; rw [if_neg (by omega)]
  · rw [show 20 + j = 4 + (16 + j) by omega, hz (16 + j) (by omega)]; unfold fD; rw [if_neg (by omega)]

set_option maxRecDepth 100000 in
set_option maxHeartbeats 1000000 in
theorem newTable_any (m : Meas) (v : Vld m) (a : Option Addr) (cap : Nat) (t : Int) (w : World) (hI : Ints w a m.hs) (h0 : -20 ≤ t) (h1 : t ≤ 20) :
    Calls Try.prog 81 #[(.agg #[.int .i64 m.L, .int .i64 m.R, .slice a m.hs.length cap]), .int .i64 t] w (RetTab m t a cap w) := by
  have hB := (Ext.refl w).alloc (.cells #[.int .i64 m.L, .int .i64 m.R, .slice a m.hs.length cap] 24)
  have n1 := v.n1
  have n8 := v.n8
  have hT := tab_start m a cap t (w.alloc (.cells #[.int .i64 m.L, .int .i64 m.R, .slice a m.hs.length cap] 24))
  have hcl : ∀ ty, (Builtin.clear_ #[22] ty #[.slice (some ⟨w.heap.size + 1, 20, none⟩) 8 8]).run Try.prog ((w.alloc (.cells #[.int .i64 m.L, .int .i64 m.R, .slice a m.hs.length cap] 24)).alloc (.cells #[.int .i64 m.L, .int .i64 m.R, .slice a m.hs.length cap, .int .i64 t, .int .i64 0, .int .i64 0, .int .i64 0, .int .i64 0, .int .i64 0, .int .i64 0, .int .i64 0, .int .i64 0, .int .i64 0, .int .i64 0, .int .i64 0, .int .i64 0, .int .i64 0, .int .i64 0, .int .i64 0, .int .i64 0, .int .i64 0, .int .i64 0, .int .i64 0, .int .i64 0, .int .i64 0, .int .i64 0, .int .i64 0, .int .i64 0] 93)) = .ok (.tuple #[]) ((w.alloc (.cells #[.int .i64 m.L, .int .i64 m.R, .slice a m.hs.length cap] 24)).alloc (.cells #[.int .i64 m.L, .int .i64 m.R, .slice a m.hs.length cap, .int .i64 t, .int .i64 0, .int .i64 0, .int .i64 0, .int .i64 0, .int .i64 0, .int .i64 0, .int .i64 0, .int .i64 0, .int .i64 0, .int .i64 0, .int .i64 0, .int .i64 0, .int .i64 0, .int .i64 0, .int .i64 0, .int .i64 0, .int .i64 0, .int .i64 0, .int .i64 0, .int .i64 0, .int .i64 0, .int .i64 0, .int .i64 0, .int .i64 0] 93)) := by
    intro ty
    have hz := hT.cd
    have hf := hT.fz
    simp only [World.size_alloc] at hz hf
    rw [Lib.run_clear_slice _ 22 2 ty (.int .i64 0) Try.underlying22 (fun w => by kernel_rfl) rfl rfl _ _ 8 8 (by omega) (fun j hj => by rw [hz j hj]; rfl) (fun j hj => hf _)]
    rw [setCells_self]
    intro j u hu
    obtain ⟨hj, rfl⟩ := List.getElem?_eq_some_iff.1 hu
    rw [hz j (by simpa using hj)]
    simp only [List.getElem_replicate, fD]
    rw [if_neg (by omega)]
  go_enter Try.func81, Try.ntmps81
  go_wp2_with fail
  replace hT : TabF ((w.alloc (.cells #[.int .i64 m.L, .int .i64 m.R, .slice a m.hs.length cap] 24)).alloc (.cells #[.int .i64 m.L, .int .i64 m.R, .slice a m.hs.length cap, .int .i64 t, .int .i64 0, .int .i64 0, .int .i64 0, .int .i64 0, .int .i64 0, .int .i64 0, .int .i64 0, .int .i64 0, .int .i64 0, .int .i64 0, .int .i64 0, .int .i64 0, .int .i64 0, .int .i64 0, .int .i64 0, .int .i64 0, .int .i64 0, .int .i64 0, .int .i64 0, .int .i64 0, .int .i64 0, .int .i64 0, .int .i64 0, .int .i64 0] 93)) (w.heap.size + 1) m t a cap (fL m t 0) (fR m t 0) (fD m t 0) := by simpa using hT
  have hE0 : Ext w ((w.alloc (.cells #[.int .i64 m.L, .int .i64 m.R, .slice a m.hs.length cap] 24)).alloc (.cells #[.int .i64 m.L, .int .i64 m.R, .slice a m.hs.length cap, .int .i64 t, .int .i64 0, .int .i64 0, .int .i64 0, .int .i64 0, .int .i64 0, .int .i64 0, .int .i64 0, .int .i64 0, .int .i64 0, .int .i64 0, .int .i64 0, .int .i64 0, .int .i64 0, .int .i64 0, .int .i64 0, .int .i64 0, .int .i64 0, .int .i64 0, .int .i64 0, .int .i64 0, .int .i64 0, .int .i64 0, .int .i64 0, .int .i64 0] 93)) := (by repeat (with_reducible first | assumption | exact Ext.refl _ | refine Ext.drew ?_ | refine Ext.drewN ?_ _ | refine Ext.alloc ?_ _ | (refine Ext.setCell ?_ ?sz _; case sz => (first | (simp; done) | (simp; omega))) | refine Ext.trans ?_ (by assumption)))
  have hE1 : Ext (w.alloc (.cells #[.int .i64 m.L, .int .i64 m.R, .slice a m.hs.length cap] 24)) ((w.alloc (.cells #[.int .i64 m.L, .int .i64 m.R, .slice a m.hs.length cap] 24)).alloc (.cells #[.int .i64 m.L, .int .i64 m.R, .slice a m.hs.length cap, .int .i64 t, .int .i64 0, .int .i64 0, .int .i64 0, .int .i64 0, .int .i64 0, .int .i64 0, .int .i64 0, .int .i64 0, .int .i64 0, .int .i64 0, .int .i64 0, .int .i64 0, .int .i64 0, .int .i64 0, .int .i64 0, .int .i64 0, .int .i64 0, .int .i64 0, .int .i64 0, .int .i64 0, .int .i64 0, .int .i64 0, .int .i64 0, .int .i64 0] 93)) := (by repeat (with_reducible first | assumption | exact Ext.refl _ | refine Ext.drew ?_ | refine Ext.drewN ?_ _ | refine Ext.alloc ?_ _ | (refine Ext.setCell ?_ ?sz _; case sz => (first | (simp; done) | (simp; omega))) | refine Ext.trans ?_ (by assumption)))
  have hI0 := hI.ext hE0
  clear hcl
  generalize (w.alloc (.cells #[.int .i64 m.L, .int .i64 m.R, .slice a m.hs.length cap] 24)).alloc (.cells #[.int .i64 m.L, .int .i64 m.R, .slice a m.hs.length cap, .int .i64 t, .int .i64 0, .int .i64 0, .int .i64 0, .int .i64 0, .int .i64 0, .int .i64 0, .int .i64 0, .int .i64 0, .int .i64 0, .int .i64 0, .int .i64 0, .int .i64 0, .int .i64 0, .int .i64 0, .int .i64 0, .int .i64 0, .int .i64 0, .int .i64 0, .int .i64 0, .int .i64 0, .int .i64 0, .int .i64 0, .int .i64 0, .int .i64 0] 93) = W at *
  refine (at_any m v _ a cap t (-1) W hI0 hT.c0 hT.c1 hT.c2 hT.c3 h0 h1 (by omega) (by omega)).mono ?_
  rintro e w1 ⟨rfl, rfl⟩
  have c0 := hT.c0
  have c1 := hT.c1
  have c2 := hT.c2
  have c3 := hT.c3
  go_wp2_with fail
  go_loopw [7, 33] (fun p i wr => ∃ k : Nat, k ≤ m.hs.length ∧ i = .int .i64 k ∧ p = .int .i64 (tl m t k) ∧ TabF wr (w.heap.size + 1) m t a cap (fL m t k) (fR m t 0) (fD m t 0) ∧ Ext (w.alloc (.cells #[.int .i64 m.L, .int .i64 m.R, .slice a m.hs.length cap] 24)) wr)
    (fun _ i _ => (m.hs.length - intOf i).toNat)
  case atStart => exact ⟨0, by omega, rfl, rfl, hT, hE1⟩
  case round =>
    clear c0 c1 c2 c3 hT hE0 hE1 hI0
    obtain ⟨k, hk, rfl, rfl, hT, hw⟩ := hrel
    have c0 := hT.c0
    have c1 := hT.c1
    have c2 := hT.c2
    have c3 := hT.c3
    obtain ⟨b0, b1⟩ := tl_bd v h0 h1 k hk
    by_cases hlt : k < m.hs.length
    · have ck := hT.cl k (by omega)
      have fk := hT.fz (4 + k)
      have hs := hid (tl_succ m t k)
      obtain ⟨b2, b3⟩ := hAt_bd (i := (k : Int)) v h0 h1 (by omega) (by omega)
      by_cases hm : tl m t k < hAt m t k
      all_goals
        go_wp2_with fail
        refine (at_any m v _ a cap t k _ (by first | assumption | exact Ints.ext hI (by repeat (with_reducible first | assumption | exact Ext.refl _ | refine Ext.drew ?_ | refine Ext.drewN ?_ _ | refine Ext.alloc ?_ _ | (refine Ext.setCell ?_ ?sz _; case sz => (first | (simp; done) | (simp; omega))) | refine Ext.trans ?_ (by assumption)))) c0 c1 c2 c3 h0 h1 (by omega) (by omega)).mono ?_
        rintro e w2 ⟨rfl, rfl⟩
        go_wp2_with fail
        go_roundw
        case rel =>
          refine ⟨k + 1, by omega, by go_num, by rw [hs.out]; congr 1; omega, ((hT.putL (k := k) (by omega) _).congr ?_ (fun _ _ => rfl) (fun _ _ => rfl)), (by repeat (with_reducible first | assumption | exact Ext.refl _ | refine Ext.drew ?_ | refine Ext.drewN ?_ _ | refine Ext.alloc ?_ _ | (refine Ext.setCell ?_ ?sz _; case sz => (first | (simp; done) | (simp; omega))) | refine Ext.trans ?_ (by assumption)))⟩
          intro j hj
          unfold upd fL
          by_cases e : j = k
          · subst e; rw [if_pos rfl, if_pos (by omega), hs.out]; omega
          · rw [if_neg e]; by_cases e2 : j < k
            · rw [if_pos e2, if_pos (by omega)]
            · rw [if_neg e2, if_neg (by omega)]
        case measure => simp [intOf]; omega
    · obtain rfl : k = m.hs.length := by omega
      go_wp2_with fail
      refine (at_any m v _ a cap t _ _ (by first | assumption | exact Ints.ext hI (by repeat (with_reducible first | assumption | exact Ext.refl _ | refine Ext.drew ?_ | refine Ext.drewN ?_ _ | refine Ext.alloc ?_ _ | (refine Ext.setCell ?_ ?sz _; case sz => (first | (simp; done) | (simp; omega))) | refine Ext.trans ?_ (by assumption)))) c0 c1 c2 c3 h0 h1 (by omega) (by omega)).mono ?_
      rintro e w2 ⟨rfl, rfl⟩
      go_wp2_with fail
      go_loopw [7, 57] (fun p i wr => ∃ k : Nat, k ≤ m.hs.length ∧ i = .int .i64 k ∧ p = .int .i64 (tr m t k) ∧ TabF wr (w.heap.size + 1) m t a cap (fL m t m.hs.length) (fR m t k) (fD m t k) ∧ Ext (w.alloc (.cells #[.int .i64 m.L, .int .i64 m.R, .slice a m.hs.length cap] 24)) wr)
        (fun _ i _ => (m.hs.length - intOf i).toNat)
      case atStart => exact ⟨0, by omega, rfl, rfl, hT, hw⟩
      case round =>
        clear c0 c1 c2 c3 hT hw b0 b1 hlt hk
        obtain ⟨k, hk, rfl, rfl, hT, hw⟩ := hrel
        have c0 := hT.c0
        have c1 := hT.c1
        have c2 := hT.c2
        have c3 := hT.c3
        obtain ⟨b0, b1⟩ := tr_bd v h0 h1 k hk
        by_cases hlt : k < m.hs.length
        · obtain ⟨i, hi⟩ : ∃ i : Nat, (m.hs.length : Int) - 1 - k = i := ⟨m.hs.length - 1 - k, by omega⟩
          have hi8 : i < m.hs.length := by omega
          have hik : i = m.hs.length - 1 - k := by omega
          replace hik := hid hik
          have cl := hT.cl i (by omega)
          have cr := hT.cr i (by omega)
          have cd := hT.cd i (by omega)
          have fr := hT.fz (12 + i)
          have fd := hT.fz (20 + i)
          have hl : fL m t m.hs.length i = topL m t i := by unfold fL; rw [if_pos hi8]; rfl
          rw [hl] at cl
          clear hl
          have hs := tr_succ m t k hlt
          have hsr : tr m t (k + 1) = topR m t i := by show topR m t _ = _; rw [hi]
          rw [hi] at hs
          rw [hsr] at hs
          replace hs := hid hs
          replace hsr := hid hsr
          obtain ⟨b2, b3⟩ := hAt_bd (i := (i : Int)) v h0 h1 (by omega) (by omega)
          obtain ⟨b4, b5⟩ := topL_bd (f := (i : Int)) v h0 h1 (by omega) (by omega)
          have hT' : ∀ x y, x = topR m t i → y = depth m t i → TabF ((wr.setCell ⟨w.heap.size + 1, 12 + i, none⟩ (.int .i64 x)).setCell ⟨w.heap.size + 1, 20 + i, none⟩ (.int .i64 y)) (w.heap.size + 1) m t a cap (fL m t m.hs.length) (fR m t (k + 1)) (fD m t (k + 1)) := by
            intro x y hx hy
            subst hx hy
            refine ((hT.putR (k := i) (by omega) _).putD (k := i) (by omega) _).congr (fun _ _ => rfl) ?_ ?_
            · intro j hj
              have := hik.out
              unfold upd fR
              by_cases e : j = i
              · subst e; rw [if_pos rfl, if_pos (by omega)]
              · rw [if_neg e]; by_cases e2 : m.hs.length - k ≤ j ∧ j < m.hs.length
                · rw [if_pos e2, if_pos (by omega)]
                · rw [if_neg e2, if_neg (by omega)]
            · intro j hj
              have := hik.out
              unfold upd fD
              by_cases e : j = i
              · subst e; rw [if_pos rfl, if_pos (by omega)]
              · rw [if_neg e]; by_cases e2 : m.hs.length - k ≤ j ∧ j < m.hs.length
                · rw [if_pos e2, if_pos (by omega)]
                · rw [if_neg e2, if_neg (by omega)]
          replace hi := hid hi
          by_cases hm : tr m t k < hAt m t i
          · have x1 : hAt m t i ≤ topR m t i := by have := hs.out; omega
            have x2 : topR m t i ≤ hAt m t i := by have := hs.out; omega
            by_cases hm2 : topR m t i < topL m t i
            all_goals
              go_wp2_with fail
              rw [hi.out]
              refine (at_any m v _ a cap t i _ (by first | assumption | exact Ints.ext hI (by repeat (with_reducible first | assumption | exact Ext.refl _ | refine Ext.drew ?_ | refine Ext.drewN ?_ _ | refine Ext.alloc ?_ _ | (refine Ext.setCell ?_ ?sz _; case sz => (first | (simp; done) | (simp; omega))) | refine Ext.trans ?_ (by assumption)))) c0 c1 c2 c3 h0 h1 (by omega) (by omega)).mono ?_
              rintro e w2 ⟨rfl, rfl⟩
              have hTd := (hT.putR (k := i) (by omega) (hAt m t i)).ext (Ext.refl _).drew
              have hId : Ints (World.drew (wr.setCell ⟨w.heap.size + 1, 12 + i, none⟩ (.int .i64 (hAt m t i)))) a m.hs := hI.ext (by repeat (with_reducible first | assumption | exact Ext.refl _ | refine Ext.drew ?_ | refine Ext.drewN ?_ _ | refine Ext.alloc ?_ _ | (refine Ext.setCell ?_ ?sz _; case sz => (first | (simp; done) | (simp; omega))) | refine Ext.trans ?_ (by assumption)))
              go_wp2_with fail
              have i0 : (0 : Int) ≤ (i : Int) := by omega
              have i8 : (i : Int) < 8 := by omega
              have y1 := IntWalk.i64_in (hAt m t i - hAt m t i) (by omega)
              have y2 := IntWalk.i64_in (topL m t i - hAt m t i) (by omega)
              refine wp_region_still_tail 17 (by kernel_rfl) (by kernel_rfl) ?_
              change wpStill _ _ (World.drew (wr.setCell ⟨w.heap.size + 1, 12 + i, none⟩ (.int .i64 (hAt m t i)))) (fun a' => wpList _ _ _ _ a' (World.drew (wr.setCell ⟨w.heap.size + 1, 12 + i, none⟩ (.int .i64 (hAt m t i))))) _ _
              simp only [List.take_succ_cons, List.take_zero, List.drop_succ_cons, List.drop_zero]
              repeat still_step
              still_call ((at_any m v _ a cap t i _ hId hTd.c0 hTd.c1 hTd.c2 hTd.c3 h0 h1 (by omega) (by omega)).mono fun e w' h => ⟨h.1, h.2.symm⟩)
              repeat still_step
              refine wpStill_nil ?_
              clear y1 y2
              go_wp2_with fail
              go_roundw
              case rel =>
                refine ⟨k + 1, by omega, by go_num, by rw [hsr.out]; congr 1; omega, (hT' _ _ (by omega) (by unfold depth; omega)).ext (Ext.refl _).drew, (by repeat (with_reducible first | assumption | exact Ext.refl _ | refine Ext.drew ?_ | refine Ext.drewN ?_ _ | refine Ext.alloc ?_ _ | (refine Ext.setCell ?_ ?sz _; case sz => (first | (simp; done) | (simp; omega))) | refine Ext.trans ?_ (by assumption)))⟩
              case measure => simp [intOf]; omega
          · have x1 : tr m t k ≤ topR m t i := by have := hs.out; omega
            have x2 : topR m t i ≤ tr m t k := by have := hs.out; omega
            by_cases hm2 : topR m t i < topL m t i
            all_goals
              go_wp2_with fail
              rw [hi.out]
              refine (at_any m v _ a cap t i _ (by first | assumption | exact Ints.ext hI (by repeat (with_reducible first | assumption | exact Ext.refl _ | refine Ext.drew ?_ | refine Ext.drewN ?_ _ | refine Ext.alloc ?_ _ | (refine Ext.setCell ?_ ?sz _; case sz => (first | (simp; done) | (simp; omega))) | refine Ext.trans ?_ (by assumption)))) c0 c1 c2 c3 h0 h1 (by omega) (by omega)).mono ?_
              rintro e w2 ⟨rfl, rfl⟩
              have hTd := (hT.putR (k := i) (by omega) (tr m t k)).ext (Ext.refl _).drew
              have hId : Ints (World.drew (wr.setCell ⟨w.heap.size + 1, 12 + i, none⟩ (.int .i64 (tr m t k)))) a m.hs := hI.ext (by repeat (with_reducible first | assumption | exact Ext.refl _ | refine Ext.drew ?_ | refine Ext.drewN ?_ _ | refine Ext.alloc ?_ _ | (refine Ext.setCell ?_ ?sz _; case sz => (first | (simp; done) | (simp; omega))) | refine Ext.trans ?_ (by assumption)))
              go_wp2_with fail
              have i0 : (0 : Int) ≤ (i : Int) := by omega
              have i8 : (i : Int) < 8 := by omega
              have y1 := IntWalk.i64_in (tr m t k - hAt m t i) (by omega)
              have y2 := IntWalk.i64_in (topL m t i - hAt m t i) (by omega)
              refine wp_region_still_tail 17 (by kernel_rfl) (by kernel_rfl) ?_
              change wpStill _ _ (World.drew (wr.setCell ⟨w.heap.size + 1, 12 + i, none⟩ (.int .i64 (tr m t k)))) (fun a' => wpList _ _ _ _ a' (World.drew (wr.setCell ⟨w.heap.size + 1, 12 + i, none⟩ (.int .i64 (tr m t k))))) _ _
              simp only [List.take_succ_cons, List.take_zero, List.drop_succ_cons, List.drop_zero]
              repeat still_step
              still_call ((at_any m v _ a cap t i _ hId hTd.c0 hTd.c1 hTd.c2 hTd.c3 h0 h1 (by omega) (by omega)).mono fun e w' h => ⟨h.1, h.2.symm⟩)
              repeat still_step
              refine wpStill_nil ?_
              clear y1 y2
              go_wp2_with fail
              go_roundw
              case rel =>
                refine ⟨k + 1, by omega, by go_num, by rw [hsr.out]; congr 1; omega, (hT' _ _ (by omega) (by unfold depth; omega)).ext (Ext.refl _).drew, (by repeat (with_reducible first | assumption | exact Ext.refl _ | refine Ext.drew ?_ | refine Ext.drewN ?_ _ | refine Ext.alloc ?_ _ | (refine Ext.setCell ?_ ?sz _; case sz => (first | (simp; done) | (simp; omega))) | refine Ext.trans ?_ (by assumption)))⟩
              case measure => simp [intOf]; omega
        · obtain rfl : k = m.hs.length := by omega
          go_wp2_with fail
          go_ret
          exact ⟨_, rfl, hT, (by repeat (with_reducible first | assumption | exact Ext.refl _ | refine Ext.drew ?_ | refine Ext.drewN ?_ _ | refine Ext.alloc ?_ _ | (refine Ext.setCell ?_ ?sz _; case sz => (first | (simp; done) | (simp; omega))) | refine Ext.trans ?_ (by assumption)))⟩

end Go.Proofs.Ytogglbhidlnijaa
