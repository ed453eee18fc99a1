/- The program's checks of ranges. -/
import Derived.Test.YtogglbhidlnijaaDent
import Derived.Test.YtogglbhidlnijaaPinH
namespace Go.Proofs.Ytogglbhidlnijaa
set_option linter.unusedVariables false
set_option linter.unusedSimpArgs false
set_option linter.unusedSectionVars false
set_option linter.unnecessarySimpa false
open Go Go.RowKit
set_option maxRecDepth 100000

def stray (x y : Int) : Bool := !(inR 0 100 x && inR 0 100 y) || !(inR 0 10 (y - x))
def gtB (x y : Int) : Bool := decide (y < x)
theorem stray_no {x y : Int} : stray x y = false ↔ okR x y := by
  unfold stray
  simp only [Bool.or_eq_false_iff, Bool.not_eq_false', Bool.and_eq_true, inR_iff]
  unfold okR
  omega

theorem gt_any (x y : Int) (w : World) :
    Calls Try.prog 98 #[.agg #[.int .i64 x, .int .i64 y]] w fun e w' => e = .returned (.bool (gtB x y)) ∧ Ext w w' := by
  go_enter Try.func98, Try.ntmps98
  go_wp2_with fail
  go_ret
  exact ⟨rfl, (by repeat (with_reducible first | assumption | exact Ext.refl _ | refine Ext.drew ?_ | refine Ext.drewN ?_ _ | refine Ext.alloc ?_ _ | (refine Ext.setCell ?_ ?sz _; case sz => (first | (simp; done) | (simp; omega))) | refine Ext.trans ?_ (by assumption)))⟩

set_option maxHeartbeats 400000 in
theorem stray_any (x y : Int) (hx : I64 x) (hy : I64 y) (w : World) :
    Calls Try.prog 92 #[.agg #[.int .i64 x, .int .i64 y]] w fun e w' => e = .returned (.bool (stray x y)) ∧ Ext w w' := by
  cases g : (inR 0 100 x && inR 0 100 y) with
  | false =>
    have H := hid (show stray x y = true by unfold stray; rw [g]; rfl)
    have G := hid g
    clear g
    go_enter Try.func92, Try.ntmps92
    go_wp2_with fail
    refine (within2_any 0 100 _ _ _ _ (by exact lit2 (by simp)) hx hy).mono ?_
    rintro e w1 ⟨rfl, hE⟩
    rw [G.out]
    go_wp2_with fail
    go_ret
    exact ⟨ret_bool H.out.symm, (by repeat (with_reducible first | assumption | exact Ext.refl _ | refine Ext.drew ?_ | refine Ext.drewN ?_ _ | refine Ext.alloc ?_ _ | (refine Ext.setCell ?_ ?sz _; case sz => (first | (simp; done) | (simp; omega))) | refine Ext.trans ?_ (by assumption)))⟩
  | true =>
    have hb : (0 ≤ x ∧ x ≤ 100) ∧ (0 ≤ y ∧ y ≤ 100) := by simpa [inR_iff] using g
    obtain ⟨⟨x0, x1⟩, y0, y1⟩ := hb
    have hd : I64 (y - x) := ⟨by omega, by omega⟩
    have H := hid (show stray x y = !(inR 0 10 (y - x)) by unfold stray; rw [g]; rfl)
    have G := hid g
    clear g
    go_enter Try.func92, Try.ntmps92
    go_wp2_with fail
    refine (within2_any 0 100 _ _ _ _ (by exact lit2 (by simp)) hx hy).mono ?_
    rintro e w1 ⟨rfl, hE⟩
    rw [G.out]
    have c0 := hE.cell (p := ⟨w.heap.size, 0, none⟩) (v := .int .i64 x) (by simp [go_sem])
    have c1 := hE.cell (p := ⟨w.heap.size, 1, none⟩) (v := .int .i64 y) (by simp [go_sem])
    go_wp2_with fail
    refine (within1_any 0 10 _ _ _ (by exact lit1 (by simp)) hd).mono ?_
    rintro e w2 ⟨rfl, hE2⟩
    go_wp2_with fail
    go_ret
    exact ⟨ret_bool H.out.symm, (by repeat (with_reducible first | assumption | exact Ext.refl _ | refine Ext.drew ?_ | refine Ext.drewN ?_ _ | refine Ext.alloc ?_ _ | (refine Ext.setCell ?_ ?sz _; case sz => (first | (simp; done) | (simp; omega))) | refine Ext.trans ?_ (by assumption)))⟩

/-- The index, or -1. -/
def IdxE (b : Bool) (w : World) (e : Ending) (w' : World) : Prop := ∃ r : Int, e = .returned (.int .i64 r) ∧ decide (0 ≤ r) = b ∧ -1 ≤ r ∧ r ≤ 9223372036854775807 ∧ Ext w w'
/-- Whether one of the ranges is so. -/
def anyR (f : Int → Int → Bool) (l : List (Int × Int)) : Bool := l.any fun r => f r.1 r.2
theorem anyR_yes {f : Int → Int → Bool} {l : List (Int × Int)} {k : Nat} (h : k < l.length) (g : f (pa l k) (pb l k) = true) : anyR f l = true := by
  unfold anyR; rw [List.any_eq_true]
  exact ⟨l[k], List.getElem_mem h, by rwa [pa_lt h, pb_lt h] at g⟩
theorem anyR_no {f : Int → Int → Bool} {l : List (Int × Int)} (g : ∀ k, k < l.length → f (pa l k) (pb l k) = false) : anyR f l = false := by
  unfold anyR; rw [List.any_eq_false]
  intro r hr
  obtain ⟨i, hi, rfl⟩ := List.getElem_of_mem hr
  have := g i hi
  rw [pa_lt hi, pb_lt hi] at this
  simp [this]


set_option maxHeartbeats 1000000 in
  theorem indexStray_any (a : Option Addr) (cap : Nat) (l : List (Int × Int)) (w : World) (hP : Prs w a l) (hl : l.length ≤ 1099511627776) (h1 : ∀ i, I64 (pa l i)) (h2 : ∀ i, I64 (pb l i)) :
    Calls Try.prog 102 #[.slice a l.length cap, .func (.func 92) #[] #[]] w (IdxE (anyR stray l) w) := by
   go_enter Try.func102, Try.ntmps102
   go_wp2_with fail
   go_loopw [8] (fun i wr => ∃ k : Nat, k ≤ l.length ∧ i = .int .i64 k ∧ Hid (∀ j, j < k → stray (pa l j) (pb l j) = false) ∧ Ext w wr) (fun i _ => (l.length - intOf i).toNat)
   case atStart => exact ⟨0, by omega, rfl, fun j hj => absurd hj (by omega), Ext.refl _⟩
   case round =>
    obtain ⟨k, hk, rfl, hj, hw⟩ := hrel
    by_cases hlt : k < l.length
    · obtain ⟨b, off, rfl, hb, hc⟩ := hP.at (by omega)
      obtain ⟨e0, e1⟩ := hc k hlt
      have e0 := hw.cell e0
      have e1 := hw.cell e1
      clear hc
      cases g : stray (pa l k) (pb l k) with
      | false =>
        have H : Hid (∀ j, j < k + 1 → stray (pa l j) (pb l j) = false) := fun j hj' => by
          rcases Nat.lt_or_ge j k with h | h
          · exact hj.out j h
          · obtain rfl : j = k := by omega
            exact g
        have G := hid g
        clear g
        go_wp2_with fail
        refine (stray_any _ _ (h1 k) (h2 k) _).mono ?_
        rintro e w1 ⟨rfl, hE⟩
        rw [G.out]
        go_wp2_with fail
        go_roundw
        case rel => exact ⟨k + 1, by omega, by go_num, H, (by repeat (with_reducible first | assumption | exact Ext.refl _ | refine Ext.drew ?_ | refine Ext.drewN ?_ _ | refine Ext.alloc ?_ _ | (refine Ext.setCell ?_ ?sz _; case sz => (first | (simp; done) | (simp; omega))) | refine Ext.trans ?_ (by assumption)))⟩
        case measure => simp [intOf]; omega
      | true =>
        have G := hid g
        clear g
        go_wp2_with fail
        refine (stray_any _ _ (h1 k) (h2 k) _).mono ?_
        rintro e w1 ⟨rfl, hE⟩
        rw [G.out]
        go_wp2_with fail
        go_ret
        refine ⟨k, rfl, ?_, by omega, by omega, (by repeat (with_reducible first | assumption | exact Ext.refl _ | refine Ext.drew ?_ | refine Ext.drewN ?_ _ | refine Ext.alloc ?_ _ | (refine Ext.setCell ?_ ?sz _; case sz => (first | (simp; done) | (simp; omega))) | refine Ext.trans ?_ (by assumption)))⟩
        rw [anyR_yes hlt G.out]; simp
    · have H := hid (anyR_no (f := stray) (l := l) fun j hj' => hj.out j (by omega))
      go_wp2_with fail
      go_ret
      exact ⟨-1, rfl, by rw [H.out]; decide, by omega, by omega, (by repeat (with_reducible first | assumption | exact Ext.refl _ | refine Ext.drew ?_ | refine Ext.drewN ?_ _ | refine Ext.alloc ?_ _ | (refine Ext.setCell ?_ ?sz _; case sz => (first | (simp; done) | (simp; omega))) | refine Ext.trans ?_ (by assumption)))⟩
  theorem containsStray_any (a : Option Addr) (cap : Nat) (l : List (Int × Int)) (w : World) (hP : Prs w a l) (hl : l.length ≤ 1099511627776) (h1 : ∀ i, I64 (pa l i)) (h2 : ∀ i, I64 (pb l i)) :
    Calls Try.prog 93 #[.slice a l.length cap, .func (.func 92) #[] #[]] w fun e w' => e = .returned (.bool (anyR stray l)) ∧ Ext w w' := by
   go_enter Try.func93, Try.ntmps93
   go_wp2_with fail
   refine (indexStray_any a cap l _ hP hl h1 h2).mono ?_
   rintro e w1 ⟨r, rfl, hr, r0, r1, hE⟩
   replace hr := hid hr
   go_wp2_with fail
   go_ret
   exact ⟨ret_bool hr.out, (by repeat (with_reducible first | assumption | exact Ext.refl _ | refine Ext.drew ?_ | refine Ext.drewN ?_ _ | refine Ext.alloc ?_ _ | (refine Ext.setCell ?_ ?sz _; case sz => (first | (simp; done) | (simp; omega))) | refine Ext.trans ?_ (by assumption)))⟩

set_option maxHeartbeats 1000000 in
  theorem indexGt_any (a : Option Addr) (cap : Nat) (l : List (Int × Int)) (w : World) (hP : Prs w a l) (hl : l.length ≤ 1099511627776) (h1 : ∀ i, I64 (pa l i)) (h2 : ∀ i, I64 (pb l i)) :
    Calls Try.prog 102 #[.slice a l.length cap, .func (.func 98) #[] #[]] w (IdxE (anyR gtB l) w) := by
   go_enter Try.func102, Try.ntmps102
   go_wp2_with fail
   go_loopw [8] (fun i wr => ∃ k : Nat, k ≤ l.length ∧ i = .int .i64 k ∧ Hid (∀ j, j < k → gtB (pa l j) (pb l j) = false) ∧ Ext w wr) (fun i _ => (l.length - intOf i).toNat)
   case atStart => exact ⟨0, by omega, rfl, fun j hj => absurd hj (by omega), Ext.refl _⟩
   case round =>
    obtain ⟨k, hk, rfl, hj, hw⟩ := hrel
    by_cases hlt : k < l.length
    · obtain ⟨b, off, rfl, hb, hc⟩ := hP.at (by omega)
      obtain ⟨e0, e1⟩ := hc k hlt
      have e0 := hw.cell e0
      have e1 := hw.cell e1
      clear hc
      cases g : gtB (pa l k) (pb l k) with
      | false =>
        have H : Hid (∀ j, j < k + 1 → gtB (pa l j) (pb l j) = false) := fun j hj' => by
          rcases Nat.lt_or_ge j k with h | h
          · exact hj.out j h
          · obtain rfl : j = k := by omega
            exact g
        have G := hid g
        clear g
        go_wp2_with fail
        refine (gt_any _ _ _).mono ?_
        rintro e w1 ⟨rfl, hE⟩
        rw [G.out]
        go_wp2_with fail
        go_roundw
        case rel => exact ⟨k + 1, by omega, by go_num, H, (by repeat (with_reducible first | assumption | exact Ext.refl _ | refine Ext.drew ?_ | refine Ext.drewN ?_ _ | refine Ext.alloc ?_ _ | (refine Ext.setCell ?_ ?sz _; case sz => (first | (simp; done) | (simp; omega))) | refine Ext.trans ?_ (by assumption)))⟩
        case measure => simp [intOf]; omega
      | true =>
        have G := hid g
        clear g
        go_wp2_with fail
        refine (gt_any _ _ _).mono ?_
        rintro e w1 ⟨rfl, hE⟩
        rw [G.out]
        go_wp2_with fail
        go_ret
        refine ⟨k, rfl, ?_, by omega, by omega, (by repeat (with_reducible first | assumption | exact Ext.refl _ | refine Ext.drew ?_ | refine Ext.drewN ?_ _ | refine Ext.alloc ?_ _ | (refine Ext.setCell ?_ ?sz _; case sz => (first | (simp; done) | (simp; omega))) | refine Ext.trans ?_ (by assumption)))⟩
        rw [anyR_yes hlt G.out]; simp
    · have H := hid (anyR_no (f := gtB) (l := l) fun j hj' => hj.out j (by omega))
      go_wp2_with fail
      go_ret
      exact ⟨-1, rfl, by rw [H.out]; decide, by omega, by omega, (by repeat (with_reducible first | assumption | exact Ext.refl _ | refine Ext.drew ?_ | refine Ext.drewN ?_ _ | refine Ext.alloc ?_ _ | (refine Ext.setCell ?_ ?sz _; case sz => (first | (simp; done) | (simp; omega))) | refine Ext.trans ?_ (by assumption)))⟩
  theorem containsGt_any (a : Option Addr) (cap : Nat) (l : List (Int × Int)) (w : World) (hP : Prs w a l) (hl : l.length ≤ 1099511627776) (h1 : ∀ i, I64 (pa l i)) (h2 : ∀ i, I64 (pb l i)) :
    Calls Try.prog 93 #[.slice a l.length cap, .func (.func 98) #[] #[]] w fun e w' => e = .returned (.bool (anyR gtB l)) ∧ Ext w w' := by
   go_enter Try.func93, Try.ntmps93
   go_wp2_with fail
   refine (indexGt_any a cap l _ hP hl h1 h2).mono ?_
   rintro e w1 ⟨r, rfl, hr, r0, r1, hE⟩
   replace hr := hid hr
   go_wp2_with fail
   go_ret
   exact ⟨ret_bool hr.out, (by repeat (with_reducible first | assumption | exact Ext.refl _ | refine Ext.drew ?_ | refine Ext.drewN ?_ _ | refine Ext.alloc ?_ _ | (refine Ext.setCell ?_ ?sz _; case sz => (first | (simp; done) | (simp; omega))) | refine Ext.trans ?_ (by assumption)))⟩

end Go.Proofs.Ytogglbhidlnijaa
