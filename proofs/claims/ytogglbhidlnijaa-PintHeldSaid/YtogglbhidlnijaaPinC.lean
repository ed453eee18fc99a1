/- The program's functions over a table. -/
import Derived.Test.YtogglbhidlnijaaPinB
import Derived.BigQuiet
import Derived.Deep.QuietTactic
namespace Go.Proofs.Ytogglbhidlnijaa
set_option linter.unusedVariables false
set_option linter.unusedSimpArgs false
set_option linter.unusedSectionVars false
set_option linter.unnecessarySimpa false
open Go Go.RowKit

theorem within1E_any (lo hi x : Int) (b : Nat) (w w0 : World) (hI : Ints w (some ⟨b, 0, none⟩) [x]) (hx : I64 x) :
    Calls Try.prog 74 #[.int .i64 lo, .int .i64 hi, .slice (some ⟨b, 0, none⟩) 1 1] w fun e w' => e = .returned (.bool (inR lo hi x)) ∧ Ext w w' := within1_any lo hi x b w hI hx

/-- The call returns the table, or the error: no table. -/
def RetOpen (er : Int) (m : Meas) (t : Int) (a : Option Addr) (cap : Nat) (w : World) (e : Ending) (w' : World) : Prop :=
  (er ≠ 0 ∧ e = .returned (.tuple #[.pointer none, .int .i64 er]) ∧ Ext w w') ∨ (er = 0 ∧ ∃ tb, e = .returned (.tuple #[.pointer (some ⟨tb, 0, none⟩), .int .i64 0]) ∧ Tab w' tb m t a cap ∧ Ext w w')

set_option maxHeartbeats 1000000 in
theorem open0_any (m : Meas) (q : Fit m) (a : Option Addr) (cap : Nat) (t : Int) (w : World) (hI : Ints w a m.hs) (hl : m.hs.length ≤ 1000) (ht : I64 t) :
    Calls Try.prog 67 #[(.agg #[.int .i64 m.L, .int .i64 m.R, .slice a m.hs.length cap]), .int .i64 t, .slice none 0 0] w (RetOpen (tlt m t) m t a cap w) := by
  have hB := (Ext.refl w).alloc (.cells #[.int .i64 m.L, .int .i64 m.R, .slice a m.hs.length cap] 24)
  by_cases g : chk m = 0
  · have g0 : (chk m != 0) = false := by simp [g]
    cases g1 : inR (-20) 20 t with
    | false =>
      have H := hid (tlt_far (m := m) (t := t) g (by have := mt inR_iff.2 (by simpa using g1); omega))
      have g2 : (!inR (-20) 20 t) = true := by rw [g1]; rfl
      clear g g1
      go_enter Try.func67, Try.ntmps67
      go_wp2_with fail
      refine (checkMeasure_any m q a cap _ (by first | assumption | exact Ints.ext hI (by repeat (with_reducible first | assumption | exact Ext.refl _ | refine Ext.drew ?_ | refine Ext.drewN ?_ _ | refine Ext.alloc ?_ _ | (refine Ext.setCell ?_ ?sz _; case sz => (first | (simp; done) | (simp; omega))) | refine Ext.trans ?_ (by assumption)))) hl).mono ?_
      rintro e w1 ⟨rfl, hE⟩
      go_wp2_with fail
      refine (within1_any (-20) 20 _ _ _ (by exact lit1 (by simp)) ht).mono ?_
      rintro e w2 ⟨rfl, hE2⟩
      go_wp2_with fail
      go_ret2
      refine .inl ⟨by rw [H.out]; decide, by rw [H.out]; rfl, (by repeat (with_reducible first | assumption | exact Ext.refl _ | refine Ext.drew ?_ | refine Ext.drewN ?_ _ | refine Ext.alloc ?_ _ | (refine Ext.setCell ?_ ?sz _; case sz => (first | (simp; done) | (simp; omega))) | refine Ext.trans ?_ (by assumption)))⟩
    | true =>
      have k : Tl m t := ⟨chk_ok.1 g, (inR_iff.1 g1).1, (inR_iff.1 g1).2⟩
      have H := hid (tlt_ok.2 k)
      have g2 : (!inR (-20) 20 t) = false := by rw [g1]; rfl
      clear g g1
      go_enter Try.func67, Try.ntmps67
      go_wp2_with fail
      refine (checkMeasure_any m q a cap _ (by first | assumption | exact Ints.ext hI (by repeat (with_reducible first | assumption | exact Ext.refl _ | refine Ext.drew ?_ | refine Ext.drewN ?_ _ | refine Ext.alloc ?_ _ | (refine Ext.setCell ?_ ?sz _; case sz => (first | (simp; done) | (simp; omega))) | refine Ext.trans ?_ (by assumption)))) hl).mono ?_
      rintro e w1 ⟨rfl, hE⟩
      obtain ⟨c0, c1, c2⟩ := box3 hE
      go_wp2_with fail
      refine (within1_any (-20) 20 _ _ _ (by exact lit1 (by simp)) ht).mono ?_
      rintro e w2 ⟨rfl, hE2⟩
      obtain ⟨c0, c1, c2⟩ := box3 (show Ext (w.alloc (.cells #[.int .i64 m.L, .int .i64 m.R, .slice a m.hs.length cap] 24)) w2 from (by repeat (with_reducible first | assumption | exact Ext.refl _ | refine Ext.drew ?_ | refine Ext.drewN ?_ _ | refine Ext.alloc ?_ _ | (refine Ext.setCell ?_ ?sz _; case sz => (first | (simp; done) | (simp; omega))) | refine Ext.trans ?_ (by assumption))))
      go_wp2_with fail
      go_loop [24] (fun i => i = .int .i64 0) (fun _ => 0)
      case atStart => rfl
      case round =>
        subst hrel
        go_wp2_with fail
        refine (newTable_any m k.v a cap t _ (by first | assumption | exact Ints.ext hI (by repeat (with_reducible first | assumption | exact Ext.refl _ | refine Ext.drew ?_ | refine Ext.drewN ?_ _ | refine Ext.alloc ?_ _ | (refine Ext.setCell ?_ ?sz _; case sz => (first | (simp; done) | (simp; omega))) | refine Ext.trans ?_ (by assumption)))) k.t0 k.t1).mono ?_
        rintro e w3 ⟨tb, rfl, hT, hE3⟩
        go_wp2_with fail
        go_ret2
        exact .inr ⟨H.out, tb, rfl, hT, (by repeat (with_reducible first | assumption | exact Ext.refl _ | refine Ext.drew ?_ | refine Ext.drewN ?_ _ | refine Ext.alloc ?_ _ | (refine Ext.setCell ?_ ?sz _; case sz => (first | (simp; done) | (simp; omega))) | refine Ext.trans ?_ (by assumption)))⟩
  · have g0 : (chk m != 0) = true := by simp [g]
    have H := hid (tlt_bad (t := t) g)
    have H2 := hid g
    clear g
    go_enter Try.func67, Try.ntmps67
    go_wp2_with fail
    refine (checkMeasure_any m q a cap _ (by first | assumption | exact Ints.ext hI (by repeat (with_reducible first | assumption | exact Ext.refl _ | refine Ext.drew ?_ | refine Ext.drewN ?_ _ | refine Ext.alloc ?_ _ | (refine Ext.setCell ?_ ?sz _; case sz => (first | (simp; done) | (simp; omega))) | refine Ext.trans ?_ (by assumption)))) hl).mono ?_
    rintro e w1 ⟨rfl, hE⟩
    go_wp2_with fail
    go_ret2
    refine .inl ⟨by rw [H.out]; exact H2.out, by rw [H.out]; rfl, (by repeat (with_reducible first | assumption | exact Ext.refl _ | refine Ext.drew ?_ | refine Ext.drewN ?_ _ | refine Ext.alloc ?_ _ | (refine Ext.setCell ?_ ?sz _; case sz => (first | (simp; done) | (simp; omega))) | refine Ext.trans ?_ (by assumption)))⟩


/-- With a place. -/
def RetOpenP (er : Int) (m : Meas) (t : Int) (a : Option Addr) (cap : Nat) (w : World) (e : Ending) (w' : World) : Prop := RetOpen er m t a cap w e w'

set_option maxHeartbeats 2000000 in
theorem open1_any (m : Meas) (q : Fit m) (a : Option Addr) (cap : Nat) (t i : Int) (pb : Nat) (w : World) (hI : Ints w a m.hs) (hP : Ints w (some ⟨pb, 0, none⟩) [i]) (hl : m.hs.length ≤ 1000) (ht : I64 t) (hi : I64 i) :
    Calls Try.prog 67 #[(.agg #[.int .i64 m.L, .int .i64 m.R, .slice a m.hs.length cap]), .int .i64 t, .slice (some ⟨pb, 0, none⟩) 1 1] w (RetOpenP (plc m t i) m t a cap w) := by
  have hB := (Ext.refl w).alloc (.cells #[.int .i64 m.L, .int .i64 m.R, .slice a m.hs.length cap] 24)
  by_cases g : chk m = 0
  · have g0 : (chk m != 0) = false := by simp [g]
    cases g1 : inR (-20) 20 t with
    | false =>
      have H1 := tlt_far (m := m) (t := t) g (by have := mt inR_iff.2 (by simpa using g1); omega)
      have H := hid (show plc m t i = 3 by rw [plc_bad (by rw [H1]; decide), H1])
      have g2 : (!inR (-20) 20 t) = true := by rw [g1]; rfl
      clear g g1 H1
      go_enter Try.func67, Try.ntmps67
      go_wp2_with fail
      refine (checkMeasure_any m q a cap _ (by first | assumption | exact Ints.ext hI (by repeat (with_reducible first | assumption | exact Ext.refl _ | refine Ext.drew ?_ | refine Ext.drewN ?_ _ | refine Ext.alloc ?_ _ | (refine Ext.setCell ?_ ?sz _; case sz => (first | (simp; done) | (simp; omega))) | refine Ext.trans ?_ (by assumption)))) hl).mono ?_
      rintro e w1 ⟨rfl, hE⟩
      go_wp2_with fail
      refine (within1_any (-20) 20 _ _ _ (by exact lit1 (by simp)) ht).mono ?_
      rintro e w2 ⟨rfl, hE2⟩
      go_wp2_with fail
      go_ret2
      refine .inl ⟨by rw [H.out]; decide, by rw [H.out]; rfl, (by repeat (with_reducible first | assumption | exact Ext.refl _ | refine Ext.drew ?_ | refine Ext.drewN ?_ _ | refine Ext.alloc ?_ _ | (refine Ext.setCell ?_ ?sz _; case sz => (first | (simp; done) | (simp; omega))) | refine Ext.trans ?_ (by assumption)))⟩
    | true =>
      have k : Tl m t := ⟨chk_ok.1 g, (inR_iff.1 g1).1, (inR_iff.1 g1).2⟩
      have H0 := tlt_ok.2 k
      have n1 := k.v.n1
      have n8 := k.v.n8
      have g2 : (!inR (-20) 20 t) = false := by rw [g1]; rfl
      have p0 := hP 0 (by simp)
      obtain ⟨pb', off, e0, pc⟩ := p0
      cases e0
      have pc' : w.cell? ⟨pb, 0, none⟩ = some (.int .i64 i) := by simpa [nth] using pc
      have pl := cell_lt pc'
      dsimp only at pl
      clear g g1 pc
      cases g3 : inR 0 ((m.hs.length : Int) - 1) i with
      | false =>
        have H := hid (plc_far (i := i) H0 (by have := mt inR_iff.2 (by simpa using g3); omega))
        have g4 : (!inR 0 ((m.hs.length : Int) - 1) i) = true := by rw [g3]; rfl
        clear g3 H0
        go_enter Try.func67, Try.ntmps67
        go_wp2_with fail
        refine (checkMeasure_any m q a cap _ (by first | assumption | exact Ints.ext hI (by repeat (with_reducible first | assumption | exact Ext.refl _ | refine Ext.drew ?_ | refine Ext.drewN ?_ _ | refine Ext.alloc ?_ _ | (refine Ext.setCell ?_ ?sz _; case sz => (first | (simp; done) | (simp; omega))) | refine Ext.trans ?_ (by assumption)))) hl).mono ?_
        rintro e w1 ⟨rfl, hE⟩
        obtain ⟨c0, c1, c2⟩ := box3 hE
        go_wp2_with fail
        refine (within1_any (-20) 20 _ _ _ (by exact lit1 (by simp)) ht).mono ?_
        rintro e w2 ⟨rfl, hE2⟩
        obtain ⟨c0, c1, c2⟩ := box3 (show Ext (w.alloc (.cells #[.int .i64 m.L, .int .i64 m.R, .slice a m.hs.length cap] 24)) w2 from (by repeat (with_reducible first | assumption | exact Ext.refl _ | refine Ext.drew ?_ | refine Ext.drewN ?_ _ | refine Ext.alloc ?_ _ | (refine Ext.setCell ?_ ?sz _; case sz => (first | (simp; done) | (simp; omega))) | refine Ext.trans ?_ (by assumption))))
        have pc2 := Ext.cell (show Ext w w2 from (by repeat (with_reducible first | assumption | exact Ext.refl _ | refine Ext.drew ?_ | refine Ext.drewN ?_ _ | refine Ext.alloc ?_ _ | (refine Ext.setCell ?_ ?sz _; case sz => (first | (simp; done) | (simp; omega))) | refine Ext.trans ?_ (by assumption)))) pc'
        go_wp2_with fail
        go_loop [24] (fun i => i = .int .i64 0) (fun _ => 0)
        case atStart => rfl
        case round =>
          subst hrel
          go_wp2_with fail
          refine (within1_any 0 _ _ _ _ (by exact lit1 (by simp)) hi).mono ?_
          rintro e w3 ⟨rfl, hE3⟩
          go_wp2_with fail
          go_ret2
          refine .inl ⟨by rw [H.out]; decide, by rw [H.out]; rfl, (by repeat (with_reducible first | assumption | exact Ext.refl _ | refine Ext.drew ?_ | refine Ext.drewN ?_ _ | refine Ext.alloc ?_ _ | (refine Ext.setCell ?_ ?sz _; case sz => (first | (simp; done) | (simp; omega))) | refine Ext.trans ?_ (by assumption)))⟩
      | true =>
        have H := hid (plc_ok.2 ⟨k, (inR_iff.1 g3).1, by have := (inR_iff.1 g3).2; omega⟩)
        have g4 : (!inR 0 ((m.hs.length : Int) - 1) i) = false := by rw [g3]; rfl
        clear g3 H0
        go_enter Try.func67, Try.ntmps67
        go_wp2_with fail
        refine (checkMeasure_any m q a cap _ (by first | assumption | exact Ints.ext hI (by repeat (with_reducible first | assumption | exact Ext.refl _ | refine Ext.drew ?_ | refine Ext.drewN ?_ _ | refine Ext.alloc ?_ _ | (refine Ext.setCell ?_ ?sz _; case sz => (first | (simp; done) | (simp; omega))) | refine Ext.trans ?_ (by assumption)))) hl).mono ?_
        rintro e w1 ⟨rfl, hE⟩
        obtain ⟨c0, c1, c2⟩ := box3 hE
        go_wp2_with fail
        refine (within1_any (-20) 20 _ _ _ (by exact lit1 (by simp)) ht).mono ?_
        rintro e w2 ⟨rfl, hE2⟩
        obtain ⟨c0, c1, c2⟩ := box3 (show Ext (w.alloc (.cells #[.int .i64 m.L, .int .i64 m.R, .slice a m.hs.length cap] 24)) w2 from (by repeat (with_reducible first | assumption | exact Ext.refl _ | refine Ext.drew ?_ | refine Ext.drewN ?_ _ | refine Ext.alloc ?_ _ | (refine Ext.setCell ?_ ?sz _; case sz => (first | (simp; done) | (simp; omega))) | refine Ext.trans ?_ (by assumption))))
        have pc2 := Ext.cell (show Ext w w2 from (by repeat (with_reducible first | assumption | exact Ext.refl _ | refine Ext.drew ?_ | refine Ext.drewN ?_ _ | refine Ext.alloc ?_ _ | (refine Ext.setCell ?_ ?sz _; case sz => (first | (simp; done) | (simp; omega))) | refine Ext.trans ?_ (by assumption)))) pc'
        go_wp2_with fail
        go_loopw [24] (fun i wr => ∃ k : Nat, k ≤ 1 ∧ i = .int .i64 k ∧ Ext (w.alloc (.cells #[.int .i64 m.L, .int .i64 m.R, .slice a m.hs.length cap] 24)) wr) (fun i _ => (1 - intOf i).toNat)
        case atStart => exact ⟨0, by omega, rfl, (by repeat (with_reducible first | assumption | exact Ext.refl _ | refine Ext.drew ?_ | refine Ext.drewN ?_ _ | refine Ext.alloc ?_ _ | (refine Ext.setCell ?_ ?sz _; case sz => (first | (simp; done) | (simp; omega))) | refine Ext.trans ?_ (by assumption)))⟩
        case round =>
          obtain ⟨kk, hk, rfl, hw⟩ := hrel
          obtain ⟨c0, c1, c2⟩ := box3 hw
          have pc2 := Ext.cell (show Ext w wr from (by repeat (with_reducible first | assumption | exact Ext.refl _ | refine Ext.drew ?_ | refine Ext.drewN ?_ _ | refine Ext.alloc ?_ _ | (refine Ext.setCell ?_ ?sz _; case sz => (first | (simp; done) | (simp; omega))) | refine Ext.trans ?_ (by assumption)))) pc'
          have : kk = 0 ∨ kk = 1 := by omega
          rcases this with rfl | rfl
          · go_wp2_with fail
            refine (within1_any 0 _ _ _ _ (by exact lit1 (by simp)) hi).mono ?_
            rintro e w3 ⟨rfl, hE3⟩
            go_wp2_with fail
            go_roundw
            case rel => exact ⟨1, by omega, rfl, (by repeat (with_reducible first | assumption | exact Ext.refl _ | refine Ext.drew ?_ | refine Ext.drewN ?_ _ | refine Ext.alloc ?_ _ | (refine Ext.setCell ?_ ?sz _; case sz => (first | (simp; done) | (simp; omega))) | refine Ext.trans ?_ (by assumption)))⟩
            case measure => simp [intOf]
          · go_wp2_with fail
            refine (newTable_any m k.v a cap t _ (by first | assumption | exact Ints.ext hI (by repeat (with_reducible first | assumption | exact Ext.refl _ | refine Ext.drew ?_ | refine Ext.drewN ?_ _ | refine Ext.alloc ?_ _ | (refine Ext.setCell ?_ ?sz _; case sz => (first | (simp; done) | (simp; omega))) | refine Ext.trans ?_ (by assumption)))) k.t0 k.t1).mono ?_
            rintro e w3 ⟨tb, rfl, hT, hE3⟩
            go_wp2_with fail
            go_ret2
            exact .inr ⟨H.out, tb, rfl, hT, (by repeat (with_reducible first | assumption | exact Ext.refl _ | refine Ext.drew ?_ | refine Ext.drewN ?_ _ | refine Ext.alloc ?_ _ | (refine Ext.setCell ?_ ?sz _; case sz => (first | (simp; done) | (simp; omega))) | refine Ext.trans ?_ (by assumption)))⟩
  · have g0 : (chk m != 0) = true := by simp [g]
    have H1 := tlt_bad (t := t) g
    have H := hid (show plc m t i = chk m by rw [plc_bad (by rw [H1]; exact g), H1])
    have H2 := hid g
    clear g H1
    go_enter Try.func67, Try.ntmps67
    go_wp2_with fail
    refine (checkMeasure_any m q a cap _ (by first | assumption | exact Ints.ext hI (by repeat (with_reducible first | assumption | exact Ext.refl _ | refine Ext.drew ?_ | refine Ext.drewN ?_ _ | refine Ext.alloc ?_ _ | (refine Ext.setCell ?_ ?sz _; case sz => (first | (simp; done) | (simp; omega))) | refine Ext.trans ?_ (by assumption)))) hl).mono ?_
    rintro e w1 ⟨rfl, hE⟩
    go_wp2_with fail
    go_ret2
    refine .inl ⟨by rw [H.out]; exact H2.out, by rw [H.out]; rfl, (by repeat (with_reducible first | assumption | exact Ext.refl _ | refine Ext.drew ?_ | refine Ext.drewN ?_ _ | refine Ext.alloc ?_ _ | (refine Ext.setCell ?_ ?sz _; case sz => (first | (simp; done) | (simp; omega))) | refine Ext.trans ?_ (by assumption)))⟩

end Go.Proofs.Ytogglbhidlnijaa
