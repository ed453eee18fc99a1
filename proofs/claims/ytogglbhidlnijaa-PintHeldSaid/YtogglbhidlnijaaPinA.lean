/- The program's checks, and its table of a measure. -/
import Derived.Test.YtogglbhidlnijaaPlain
import Derived.Test.YtogglbhidlnijaaProg
import Derived.OwnWalk
import Derived.Deep.RegionHeld3
namespace Go.Proofs.Ytogglbhidlnijaa
set_option linter.unusedVariables false
set_option linter.unusedSimpArgs false
set_option linter.unusedSectionVars false
set_option linter.unnecessarySimpa false
open Go Go.RowKit

theorem withinF_any (n lo hi : Int) (p q : Addr) (w : World) (h1 : I64 n) (c1 : w.cell? p = some (.int .i64 lo)) (c2 : w.cell? q = some (.int .i64 hi)) :
    Calls Try.prog 97 #[.int .i64 n, .pointer (some p), .pointer (some q)] w fun e w' => e = .returned (.bool (!inR lo hi n)) ∧ w = w' := by
  by_cases g1 : n < lo
  · have H := hid (show inR lo hi n = false by simp [inR]; omega)
    go_enter Try.func97, Try.ntmps97
    go_wp2
    go_ret
    exact ⟨ret_bool (by rw [H.out]; rfl), rfl⟩
  by_cases g2 : hi < n
  · have H := hid (show inR lo hi n = false by simp [inR]; omega)
    go_enter Try.func97, Try.ntmps97
    go_wp2
    go_ret
    exact ⟨ret_bool (by rw [H.out]; rfl), rfl⟩
  · have H := hid (show inR lo hi n = true by simp [inR]; omega)
    go_enter Try.func97, Try.ntmps97
    go_wp2
    go_ret
    exact ⟨ret_bool (by rw [H.out]; rfl), rfl⟩

/-- The index, or -1. -/
def IdxP (b : Bool) (w : World) (e : Ending) (w' : World) : Prop := ∃ r : Int, e = .returned (.int .i64 r) ∧ decide (0 ≤ r) = b ∧ -1 ≤ r ∧ r ≤ 9223372036854775807 ∧ w = w'

set_option maxHeartbeats 400000 in
theorem indexF_any (lo hi : Int) (p q : Addr) (a : Option Addr) (cap : Nat) (l : List Int) (w : World) (hI : Ints w a l) (hl : l.length ≤ 1099511627776) (hq : ∀ i, I64 (nth l i))
    (c1 : w.cell? p = some (.int .i64 lo)) (c2 : w.cell? q = some (.int .i64 hi)) :
    Calls Try.prog 103 #[.slice a l.length cap, .func (.func 97) #[] #[.pointer (some p), .pointer (some q)]] w (IdxP (!allIn lo hi l) w) := by
  go_enter Try.func103, Try.ntmps103
  go_wp2_with fail
  go_loop [8] (fun i => ∃ k : Nat, k ≤ l.length ∧ i = .int .i64 k ∧ Hid (∀ j, j < k → inR lo hi (nth l j) = true)) (fun i => (l.length - intOf i).toNat)
  case atStart => exact ⟨0, by omega, rfl, fun j hj => absurd hj (by omega)⟩
  case round =>
    obtain ⟨k, hk, rfl, hj⟩ := hrel
    by_cases hlt : k < l.length
    · obtain ⟨b, off, rfl, hb, hc⟩ := hI.at (by omega)
      have hck := hc k hlt
      clear hc
      cases g : inR lo hi (nth l k) with
      | false =>
        have g0 : (!inR lo hi (nth l k)) = true := by rw [g]; rfl
        have G := hid g
        clear g
        go_wp2_with fail
        refine (withinF_any _ lo hi p q _ (hq k) c1 c2).mono ?_
        rintro e w1 ⟨rfl, rfl⟩
        go_wp2_with fail
        go_ret
        refine ⟨k, rfl, ?_, by omega, by omega, rfl⟩
        rw [allIn_no hlt G.out]; simp
      | true =>
        have g0 : (!inR lo hi (nth l k)) = false := by rw [g]; rfl
        have G := hid g
        clear g
        go_wp2_with fail
        refine (withinF_any _ lo hi p q _ (hq k) c1 c2).mono ?_
        rintro e w1 ⟨rfl, rfl⟩
        go_wp2_with fail
        go_round
        case rel =>
          refine ⟨k + 1, by omega, by go_num, fun j hj' => ?_⟩
          rcases Nat.lt_or_ge j k with h | h
          · exact hj.out j h
          · obtain rfl : j = k := by omega
            exact G.out
        case measure => simp [intOf]; omega
    · go_wp2_with fail
      go_ret
      refine ⟨-1, rfl, ?_, by omega, by omega, rfl⟩
      rw [allIn_iff.2 fun i hi => hj.out i (by omega)]
      decide

theorem containsF_any (lo hi : Int) (p q : Addr) (a : Option Addr) (cap : Nat) (l : List Int) (w : World) (hI : Ints w a l) (hl : l.length ≤ 1099511627776) (hq : ∀ i, I64 (nth l i))
    (c1 : w.cell? p = some (.int .i64 lo)) (c2 : w.cell? q = some (.int .i64 hi)) :
    Calls Try.prog 96 #[.slice a l.length cap, .func (.func 97) #[] #[.pointer (some p), .pointer (some q)]] w fun e w' => e = .returned (.bool (!allIn lo hi l)) ∧ w = w' := by
  go_enter Try.func96, Try.ntmps96
  go_wp2_with fail
  refine (indexF_any lo hi p q a cap l _ hI hl hq c1 c2).mono ?_
  rintro e w1 ⟨r, rfl, hr, r0, r1, rfl⟩
  replace hr := hid hr
  go_wp2_with fail
  go_ret
  exact ⟨ret_bool hr.out, rfl⟩

theorem within_any (lo hi : Int) (a : Option Addr) (cap : Nat) (l : List Int) (w : World) (hI : Ints w a l) (hl : l.length ≤ 1099511627776) (hq : ∀ i, I64 (nth l i)) :
    Calls Try.prog 74 #[.int .i64 lo, .int .i64 hi, .slice a l.length cap] w fun e w' => e = .returned (.bool (allIn lo hi l)) ∧ Ext w w' := by
  go_enter Try.func74, Try.ntmps74
  go_wp2_with fail
  refine (containsF_any lo hi _ _ a cap l _ (Ints.ext hI (by repeat (with_reducible first | assumption | exact Ext.refl _ | refine Ext.drew ?_ | refine Ext.drewN ?_ _ | refine Ext.alloc ?_ _ | (refine Ext.setCell ?_ ?sz _; case sz => (first | (simp; done) | (simp; omega))) | refine Ext.trans ?_ (by assumption)))) hl hq (by simp [go_sem]) (by simp [go_sem])).mono ?_
  rintro e w1 ⟨rfl, rfl⟩
  go_wp2_with fail
  go_ret
  exact ⟨ret_bool (by simp), (by repeat (with_reducible first | assumption | exact Ext.refl _ | refine Ext.drew ?_ | refine Ext.drewN ?_ _ | refine Ext.alloc ?_ _ | (refine Ext.setCell ?_ ?sz _; case sz => (first | (simp; done) | (simp; omega))) | refine Ext.trans ?_ (by assumption)))⟩


/-- A slice literal of one, or two, integers that was just made. -/
theorem lit1 {w : World} {x : Int} {t : TypeId} {n : Nat} (h : n = w.heap.size) : Ints (w.alloc (.cells #[.int .i64 x] t)) (some ⟨n, 0, none⟩) [x] := by
  subst h
  intro i hi
  refine ⟨_, _, rfl, ?_⟩
  obtain rfl : i = 0 := by simp at hi; omega
  simp [nth]
theorem lit2 {w : World} {x y : Int} {t : TypeId} {n : Nat} (h : n = w.heap.size) : Ints (w.alloc (.cells #[.int .i64 x, .int .i64 y] t)) (some ⟨n, 0, none⟩) [x, y] := by
  subst h
  intro i hi
  refine ⟨_, _, rfl, ?_⟩
  have : i = 0 ∨ i = 1 := by simp at hi; omega
  rcases this with rfl | rfl <;> simp [nth]
theorem i64_one {x : Int} (h : I64 x) (i : Nat) : I64 (nth [x] i) := by
  match i with
  | 0 => simpa [nth] using h
  | i + 1 => simp [nth, I64]
theorem i64_two {x y : Int} (h : I64 x) (h' : I64 y) (i : Nat) : I64 (nth [x, y] i) := by
  match i with
  | 0 => simpa [nth] using h
  | 1 => simpa [nth] using h'
  | i + 2 => simp [nth, I64]

/-- within, of one number. -/
theorem within1_any (lo hi x : Int) (b : Nat) (w : World) (hI : Ints w (some ⟨b, 0, none⟩) [x]) (hx : I64 x) :
    Calls Try.prog 74 #[.int .i64 lo, .int .i64 hi, .slice (some ⟨b, 0, none⟩) 1 1] w fun e w' => e = .returned (.bool (inR lo hi x)) ∧ Ext w w' := by
  have := within_any lo hi _ 1 [x] w hI (by simp) (i64_one hx)
  rwa [allIn_one] at this
theorem within2_any (lo hi x y : Int) (b : Nat) (w : World) (hI : Ints w (some ⟨b, 0, none⟩) [x, y]) (hx : I64 x) (hy : I64 y) :
    Calls Try.prog 74 #[.int .i64 lo, .int .i64 hi, .slice (some ⟨b, 0, none⟩) 2 2] w fun e w' => e = .returned (.bool (inR lo hi x && inR lo hi y)) ∧ Ext w w' := by
  have := within_any lo hi _ 2 [x, y] w hI (by simp) (i64_two hx hy)
  rwa [allIn_two] at this

set_option maxHeartbeats 1000000 in
theorem checkMeasure_any (m : Meas) (q : Fit m) (a : Option Addr) (cap : Nat) (w : World) (hI : Ints w a m.hs) (hl : m.hs.length ≤ 1000) :
    Calls Try.prog 27 #[(.agg #[.int .i64 m.L, .int .i64 m.R, .slice a m.hs.length cap])] w fun e w' => e = .returned (.int .i64 (chk m)) ∧ Ext w w' := by
  have hB := (Ext.refl w).alloc (.cells #[.int .i64 m.L, .int .i64 m.R, .slice a m.hs.length cap] 24)
  have hn : I64 (m.hs.length : Int) := ⟨by omega, by omega⟩
  cases g : inR 1 8 m.hs.length with
  | false =>
    have H := hid (chk_many (m := m) (by have := mt inR_iff.2 (by simpa using g); omega))
    have g0 : (!inR 1 8 (m.hs.length : Int)) = true := by rw [g]; rfl
    clear g
    go_enter Try.func27, Try.ntmps27
    go_wp2_with fail
    refine (within1_any 1 8 _ _ _ (by exact lit1 (by simp)) hn).mono ?_
    rintro e w1 ⟨rfl, hE⟩
    go_wp2_with fail
    go_ret
    exact ⟨ret_int H.out.symm, (by repeat (with_reducible first | assumption | exact Ext.refl _ | refine Ext.drew ?_ | refine Ext.drewN ?_ _ | refine Ext.alloc ?_ _ | (refine Ext.setCell ?_ ?sz _; case sz => (first | (simp; done) | (simp; omega))) | refine Ext.trans ?_ (by assumption)))⟩
  | true =>
    have g0 : (!inR 1 8 (m.hs.length : Int)) = false := by rw [g]; rfl
    have g1 := inR_iff.1 g
    clear g
    have hin : ∀ x, inH x = inR 0 100 x := fun x => rfl
    have hbad : ¬ Vld m → chk m = 3 := chk_range (by omega) (by omega)
    cases g2 : (inR 0 100 m.L && inR 0 100 m.R) with
    | false =>
      have H := hid (hbad (fun v => by simp [inR, v.l0, v.l1, v.r0, v.r1] at g2))
      have g3 : (!(inR 0 100 m.L && inR 0 100 m.R)) = true := by rw [g2]; rfl
      clear g2 hbad hin
      generalize hbb : (inR 0 100 m.L && inR 0 100 m.R) = bb at *
      have HB := hid hbb
      clear hbb
      go_enter Try.func27, Try.ntmps27
      go_wp2_with fail
      refine (within1_any 1 8 _ _ _ (by exact lit1 (by simp)) hn).mono ?_
      rintro e w1 ⟨rfl, hE⟩
      obtain ⟨c0, c1, c2⟩ := box3 (show Ext (w.alloc (.cells #[.int .i64 m.L, .int .i64 m.R, .slice a m.hs.length cap] 24)) w1 from (by repeat (with_reducible first | assumption | exact Ext.refl _ | refine Ext.drew ?_ | refine Ext.drewN ?_ _ | refine Ext.alloc ?_ _ | (refine Ext.setCell ?_ ?sz _; case sz => (first | (simp; done) | (simp; omega))) | refine Ext.trans ?_ (by assumption))))
      go_wp2_with fail
      refine (within2_any 0 100 _ _ _ _ (by exact lit2 (by simp)) q.l q.r).mono ?_
      rintro e w2 ⟨rfl, hE2⟩
      rw [HB.out]
      go_wp2_with fail
      go_ret
      exact ⟨ret_int H.out.symm, (by repeat (with_reducible first | assumption | exact Ext.refl _ | refine Ext.drew ?_ | refine Ext.drewN ?_ _ | refine Ext.alloc ?_ _ | (refine Ext.setCell ?_ ?sz _; case sz => (first | (simp; done) | (simp; omega))) | refine Ext.trans ?_ (by assumption)))⟩
    | true =>
      have g3 : (!(inR 0 100 m.L && inR 0 100 m.R)) = false := by rw [g2]; rfl
      have G2 := hid g2
      clear g2
      cases g4 : allIn 0 100 m.hs with
      | false =>
        have H := hid (hbad (fun v => by
          have := allIn_iff (lo := 0) (hi := 100) (l := m.hs).2 fun i _ => inR_iff.2 ⟨v.h0 i, v.h1 i⟩
          rw [g4] at this; cases this))
        have g5 : (!allIn 0 100 m.hs) = true := by rw [g4]; rfl
        clear g4 hbad hin
        go_enter Try.func27, Try.ntmps27
        go_wp2_with fail
        refine (within1_any 1 8 _ _ _ (by exact lit1 (by simp)) hn).mono ?_
        rintro e w1 ⟨rfl, hE⟩
        obtain ⟨c0, c1, c2⟩ := box3 (show Ext (w.alloc (.cells #[.int .i64 m.L, .int .i64 m.R, .slice a m.hs.length cap] 24)) w1 from (by repeat (with_reducible first | assumption | exact Ext.refl _ | refine Ext.drew ?_ | refine Ext.drewN ?_ _ | refine Ext.alloc ?_ _ | (refine Ext.setCell ?_ ?sz _; case sz => (first | (simp; done) | (simp; omega))) | refine Ext.trans ?_ (by assumption))))
        go_wp2_with fail
        refine (within2_any 0 100 _ _ _ _ (by exact lit2 (by simp)) q.l q.r).mono ?_
        rintro e w2 ⟨rfl, hE2⟩
        obtain ⟨c0, c1, c2⟩ := box3 (show Ext (w.alloc (.cells #[.int .i64 m.L, .int .i64 m.R, .slice a m.hs.length cap] 24)) w2 from (by repeat (with_reducible first | assumption | exact Ext.refl _ | refine Ext.drew ?_ | refine Ext.drewN ?_ _ | refine Ext.alloc ?_ _ | (refine Ext.setCell ?_ ?sz _; case sz => (first | (simp; done) | (simp; omega))) | refine Ext.trans ?_ (by assumption))))
        rw [G2.out]
        go_wp2_with fail
        refine (within_any 0 100 a cap m.hs _ (by first | assumption | exact Ints.ext hI (by repeat (with_reducible first | assumption | exact Ext.refl _ | refine Ext.drew ?_ | refine Ext.drewN ?_ _ | refine Ext.alloc ?_ _ | (refine Ext.setCell ?_ ?sz _; case sz => (first | (simp; done) | (simp; omega))) | refine Ext.trans ?_ (by assumption)))) (by omega) q.h).mono ?_
        rintro e w3 ⟨rfl, hE3⟩
        go_wp2_with fail
        go_ret
        exact ⟨ret_int H.out.symm, (by repeat (with_reducible first | assumption | exact Ext.refl _ | refine Ext.drew ?_ | refine Ext.drewN ?_ _ | refine Ext.alloc ?_ _ | (refine Ext.setCell ?_ ?sz _; case sz => (first | (simp; done) | (simp; omega))) | refine Ext.trans ?_ (by assumption)))⟩
      | true =>
        have hv : Vld m := by
          have a1 := allIn_iff.1 g4
          have a2 := Bool.and_eq_true_iff.1 G2.out
          have a3 := inR_iff.1 a2.1
          have a4 := inR_iff.1 a2.2
          refine ⟨by omega, by omega, a3.1, a3.2, a4.1, a4.2, fun i => ?_, fun i => ?_⟩ <;>
          · rcases Nat.lt_or_ge i m.hs.length with h | h
            · have := inR_iff.1 (a1 i h); omega
            · simp [nth, List.getElem?_eq_none h]
        have H := hid (chk_ok.2 hv)
        have g5 : (!allIn 0 100 m.hs) = false := by rw [g4]; rfl
        clear g4 hbad hin hv
        go_enter Try.func27, Try.ntmps27
        go_wp2_with fail
        refine (within1_any 1 8 _ _ _ (by exact lit1 (by simp)) hn).mono ?_
        rintro e w1 ⟨rfl, hE⟩
        obtain ⟨c0, c1, c2⟩ := box3 (show Ext (w.alloc (.cells #[.int .i64 m.L, .int .i64 m.R, .slice a m.hs.length cap] 24)) w1 from (by repeat (with_reducible first | assumption | exact Ext.refl _ | refine Ext.drew ?_ | refine Ext.drewN ?_ _ | refine Ext.alloc ?_ _ | (refine Ext.setCell ?_ ?sz _; case sz => (first | (simp; done) | (simp; omega))) | refine Ext.trans ?_ (by assumption))))
        go_wp2_with fail
        refine (within2_any 0 100 _ _ _ _ (by exact lit2 (by simp)) q.l q.r).mono ?_
        rintro e w2 ⟨rfl, hE2⟩
        obtain ⟨c0, c1, c2⟩ := box3 (show Ext (w.alloc (.cells #[.int .i64 m.L, .int .i64 m.R, .slice a m.hs.length cap] 24)) w2 from (by repeat (with_reducible first | assumption | exact Ext.refl _ | refine Ext.drew ?_ | refine Ext.drewN ?_ _ | refine Ext.alloc ?_ _ | (refine Ext.setCell ?_ ?sz _; case sz => (first | (simp; done) | (simp; omega))) | refine Ext.trans ?_ (by assumption))))
        rw [G2.out]
        go_wp2_with fail
        refine (within_any 0 100 a cap m.hs _ (by first | assumption | exact Ints.ext hI (by repeat (with_reducible first | assumption | exact Ext.refl _ | refine Ext.drew ?_ | refine Ext.drewN ?_ _ | refine Ext.alloc ?_ _ | (refine Ext.setCell ?_ ?sz _; case sz => (first | (simp; done) | (simp; omega))) | refine Ext.trans ?_ (by assumption)))) (by omega) q.h).mono ?_
        rintro e w3 ⟨rfl, hE3⟩
        go_wp2_with fail
        go_ret
        exact ⟨ret_int H.out.symm, (by repeat (with_reducible first | assumption | exact Ext.refl _ | refine Ext.drew ?_ | refine Ext.drewN ?_ _ | refine Ext.alloc ?_ _ | (refine Ext.setCell ?_ ?sz _; case sz => (first | (simp; done) | (simp; omega))) | refine Ext.trans ?_ (by assumption)))⟩

end Go.Proofs.Ytogglbhidlnijaa
