/- Texts of one proof, laid together: Ab, Ac, Ad, Ae, Af, Ap, Pf. -/
import Derived.Test.YtpnfhcnnodolbaaZY10
import Derived.Test.YtpnfhcnnodolbaaZY16
import Derived.Test.YtpnfhcnnodolbaaZY8
import Derived.Laws.EntriesVeiled
set_option linter.unusedVariables false
set_option linter.unusedSimpArgs false
set_option linter.unusedSectionVars false
set_option linter.unnecessarySimpa false
set_option maxRecDepth 100000
namespace Go.Proofs.Ytpnfhcnnodolbaa
open Go Go.RowKit Game
theorem odd_eq (lo hi : Int) : (!isR lo hi) = (!allIn 0 1000 [lo, hi] || decide (hi < lo)) := by
 unfold isR allIn
 simp only [List.all_cons, List.all_nil, Bool.and_true, inR]
 rw [Bool.eq_iff_iff]
 simp
 omega
theorem odd_any (lo hi : Int) (h1 : I64 lo) (h2 : I64 hi) (w : World) : Calls Try.prog 61 #[(.agg #[.int .i64 (lo), .int .i64 (hi)])] w fun e w' => e = .returned (.bool (!isR lo hi)) ∧ Ext w w' := by
 have H := odd_eq lo hi
 have hw := fun W hI => within_any 0 1000 (some ⟨w.heap.size + 1, 0, none⟩) 2 [lo, hi] W hI (by simp) (i64_two h1 h2)
 cases g : allIn 0 1000 [lo, hi] with
 | false =>
  rw [g] at H hw
  replace H := hid H
  replace hw := hid hw
  clear g
  go_enter Try.func61, Try.ntmps61
  go_wp2_with fail
  refine (hw.out _ (by exact lit2 (by simp))).mono ?_; rintro e w1 ⟨rfl, hE⟩
  go_wp2_with fail
  go_ret
  exact ⟨ret_bool (by rw [H.out]; rfl), exE⟩
 | true =>
  rw [g] at H hw
  replace hw := hid hw
  clear g
  by_cases g2 : hi < lo
  ·rw [decide_eq_true g2] at H
   replace H := hid H
   go_enter Try.func61, Try.ntmps61
   go_wp2_with fail
   refine (hw.out _ (by exact lit2 (by simp))).mono ?_; rintro e w1 ⟨rfl, hE⟩
   have c0 := hE.cell (p := ⟨w.heap.size, 0, none⟩) (v := .int .i64 lo) (by simp [go_sem])
   have c1 := hE.cell (p := ⟨w.heap.size, 1, none⟩) (v := .int .i64 hi) (by simp [go_sem])
   go_wp2_with fail
   go_ret
   exact ⟨ret_bool (by rw [H.out]; rfl), exE⟩
  ·rw [decide_eq_false g2] at H
   replace H := hid H
   go_enter Try.func61, Try.ntmps61
   go_wp2_with fail
   refine (hw.out _ (by exact lit2 (by simp))).mono ?_; rintro e w1 ⟨rfl, hE⟩
   have c0 := hE.cell (p := ⟨w.heap.size, 0, none⟩) (v := .int .i64 lo) (by simp [go_sem])
   have c1 := hE.cell (p := ⟨w.heap.size, 1, none⟩) (v := .int .i64 hi) (by simp [go_sem])
   go_wp2_with fail
   go_ret
   exact ⟨ret_bool (by rw [H.out, decide_eq_false (by omega)]; rfl), exE⟩
theorem isRange_any (lo hi : Int) (w : World) : Calls Try.prog 65 #[(.agg #[.int .i64 (lo), .int .i64 (hi)])] w fun e w' => e = .returned (.bool (isR lo hi)) ∧ Ext w w' := by
 by_cases g1 : 0 ≤ lo
 ·by_cases g2 : lo ≤ hi
  ·by_cases g3 : hi ≤ 1000
   ·have H := hid (show isR lo hi = true by unfold isR; simp; omega)
    go_enter Try.func65, Try.ntmps65
    go_wp2_with fail
    go_ret
    exact ⟨ret_bool (by rw [H.out]; first | done | simp | (simp; omega)), exE⟩
   ·have H := hid (show isR lo hi = false by unfold isR; simp; omega)
    go_enter Try.func65, Try.ntmps65
    go_wp2_with fail
    go_ret
    exact ⟨ret_bool (by rw [H.out]; first | done | simp | (simp; omega)), exE⟩
  ·have H := hid (show isR lo hi = false by unfold isR; simp; omega)
   go_enter Try.func65, Try.ntmps65
   go_wp2_with fail
   go_ret
   exact ⟨ret_bool (by rw [H.out]; first | done | simp | (simp; omega)), exE⟩
 ·have H := hid (show isR lo hi = false by unfold isR; simp; omega)
  go_enter Try.func65, Try.ntmps65
  go_wp2_with fail
  go_ret
  exact ⟨ret_bool (by rw [H.out]; first | done | simp | (simp; omega)), exE⟩
theorem touch_eq (a b : Int) : allIn 0 1000 [a, b] = (inR 0 1000 a && inR 0 1000 b) := by simp [allIn]
theorem checkTouch_any (a b : Int) (h1 : I64 a) (h2 : I64 b) (w : World) : Calls Try.prog 25 #[(.agg #[.int .i64 (a), .int .i64 (b)])] w fun e w' => e = .returned (.int .i64 (chkU a b)) ∧ Ext w w' := by
 have H : chkU a b = if allIn 0 1000 [a, b] then 0 else 3 := by rw [touch_eq]; rfl
 have hw := fun W hI => within_any 0 1000 (some ⟨w.heap.size + 1, 0, none⟩) 2 [a, b] W hI (by simp) (i64_two h1 h2)
 cases g : allIn 0 1000 [a, b] <;> (rw [g] at H hw; replace H := hid H; replace hw := hid hw; clear g)
 all_goals
  go_enter Try.func25, Try.ntmps25
  go_wp2_with fail
  refine (hw.out _ (by exact lit2 (by simp))).mono ?_; rintro e w1 ⟨rfl, hE⟩
  go_wp2_with fail
  go_ret
  exact ⟨ret_int (by rw [H.out]; rfl), exE⟩
def OKM(m : Met) : Prop := I64 m.p ∧ I64 m.ll ∧ I64 m.lh ∧ I64 m.cl ∧ I64 m.ch
theorem bad_eq (m : Met) : badM m = (!inR 0 1000 m.p || !isR m.ll m.lh || !isR m.cl m.ch) := by
 unfold badM inR
 rw [Bool.eq_iff_iff]
 cases isR m.ll m.lh <;> cases isR m.cl m.ch <;> simp <;> omega
set_option maxHeartbeats 2000000 in
theorem stray_any (m : Met) (q : OKM m) (B : Nat) (w : World) (hB : w.cell? ⟨B, 0, none⟩ = some (.func (.func 61) #[] #[])) :
 Calls Try.prog 63 #[(.agg #[.int .i64 (m).p, .int .i64 (m).ll, .int .i64 (m).lh, .int .i64 (m).cl, .int .i64 (m).ch]), .pointer (some ⟨B, 0, none⟩)] w fun e w' => e = .returned (.bool (badM m)) ∧ Ext w w' := by
 obtain ⟨q0, q1, q2, q3, q4⟩ := q
 obtain ⟨p, ll, lh, cl, ch⟩ := m
 dsimp only at q0 q1 q2 q3 q4
 have H := bad_eq ⟨p, ll, lh, cl, ch⟩
 dsimp only at H ⊢
 have hBl := cell_lt hB
 dsimp only at hBl
 have o1 := hid (odd_any ll lh q1 q2)
 have o2 := hid (odd_any cl ch q3 q4)
 cases g1 : inR 0 1000 p with
 | false =>
  rw [g1] at H
  replace H := hid H
  go_enter Try.func63, Try.ntmps63
  go_wp2_with fail
  refine (within1_any 0 1000 p _ _ (by exact lit1 (by simp)) q0).mono ?_; rintro e w1 ⟨rfl, hE⟩
  rw [g1]
  clear g1
  go_wp2_with fail
  go_ret
  exact ⟨ret_bool (by rw [H.out]; rfl), exE⟩
 | true =>
  rw [g1] at H
  cases g2 : isR ll lh with
  | false =>
   rw [g2] at H o1
   replace H := hid H
   go_enter Try.func63, Try.ntmps63
   go_wp2_with fail
   refine (within1_any 0 1000 p _ _ (by exact lit1 (by simp)) q0).mono ?_; rintro e w1 ⟨rfl, hE⟩
   rw [g1]
   have cB := (show Ext w w1 from exE).cell hB
   have c1 := hE.cell (p := ⟨w.heap.size, 1, none⟩) (v := .int .i64 ll) (by simp [go_sem])
   have c2 := hE.cell (p := ⟨w.heap.size, 2, none⟩) (v := .int .i64 lh) (by simp [go_sem])
   clear g1 g2
   go_wp2_with fail
   refine (o1.out _).mono ?_; rintro e w2 ⟨rfl, hE2⟩
   go_wp2_with fail
   go_ret
   exact ⟨ret_bool (by rw [H.out]; rfl), exE⟩
  | true =>
   rw [g2] at H o1
   replace H := hid H
   go_enter Try.func63, Try.ntmps63
   go_wp2_with fail
   refine (within1_any 0 1000 p _ _ (by exact lit1 (by simp)) q0).mono ?_; rintro e w1 ⟨rfl, hE⟩
   rw [g1]
   have cB := (show Ext w w1 from exE).cell hB
   have c1 := hE.cell (p := ⟨w.heap.size, 1, none⟩) (v := .int .i64 ll) (by simp [go_sem])
   have c2 := hE.cell (p := ⟨w.heap.size, 2, none⟩) (v := .int .i64 lh) (by simp [go_sem])
   have c3 := hE.cell (p := ⟨w.heap.size, 3, none⟩) (v := .int .i64 cl) (by simp [go_sem])
   have c4 := hE.cell (p := ⟨w.heap.size, 4, none⟩) (v := .int .i64 ch) (by simp [go_sem])
   clear g1 g2
   go_wp2_with fail
   refine (o1.out _).mono ?_; rintro e w2 ⟨rfl, hE2⟩
   have cB := hE2.cell cB
   have c3 := hE2.cell c3
   have c4 := hE2.cell c4
   go_wp2_with fail
   refine (o2.out _).mono ?_; rintro e w3 ⟨rfl, hE3⟩
   go_wp2_with fail
   go_ret
   exact ⟨ret_bool (by rw [H.out]; simp), exE⟩
theorem any_yes {l : List Met} {k : Nat} (hk : k < l.length) (h : badM (mtl l k) = true) : l.any badM = true := List.any_eq_true.2 ⟨_, mtl_lt hk, h⟩
theorem any_no {l : List Met} (h : ∀ k, k < l.length → badM (mtl l k) = false) : l.any badM = false := any_bad.2 fun i => by
 rcases Nat.lt_or_ge i l.length with g | g
 ·exact h i g
 ·rw [mtl_ge g]; decide
set_option maxHeartbeats 2000000 in
theorem idxMet_any (l : List Met) (q : FitM l) (hl : l.length ≤ 1000) (a : Option Addr) (cap : Nat) (B : Nat) (w : World) (hM : Mts w a l) (hB : w.cell? ⟨B, 0, none⟩ = some (.func (.func 61) #[] #[])) :
 Calls Try.prog 89 #[.slice a l.length cap, (.func (.func 63) #[] #[.pointer (some ⟨B, 0, none⟩)])] w fun e w' => ∃ r : Int, e = .returned (.int .i64 r) ∧ decide (0 ≤ r) = l.any badM ∧ -1 ≤ r ∧ r ≤ 9223372036854775807 ∧ Ext w w' := by
 go_enter Try.func89, Try.ntmps89
 go_wp2_with fail
 go_loopw [8] (fun i wr => ∃ k : Nat, k ≤ l.length ∧ i = .int .i64 k ∧ Hid (∀ j, j < k → badM (mtl l j) = false) ∧ Ext w wr) (fun i _ => (l.length - intOf i).toNat)
 case atStart => exact ⟨0, by omega, rfl, fun j hj => absurd hj (by omega), Ext.refl _⟩
 case round =>
  obtain ⟨k, hk, rfl, hj, hx⟩ := hrel
  by_cases hlt : k < l.length
  ·obtain ⟨b, off, rfl, hb, hc⟩ := hM.at (by omega)
   obtain ⟨e0, e1, e2, e3, e4⟩ := (hc k hlt).ext hx
   have cB := hx.cell hB
   have qk := q k
   clear hc
   have hs := fun (W : World) (h : W.cell? ⟨B, 0, none⟩ = some (.func (.func 61) #[] #[])) => stray_any (mtl l k) qk B W h
   obtain ⟨p, ll, lh, cl, ch, hm⟩ : ∃ p ll lh cl ch, mtl l k = ⟨p, ll, lh, cl, ch⟩ := ⟨_, _, _, _, _, rfl⟩
   cases g : badM (mtl l k) with
   | false =>
    have H : Hid (∀ j, j < k + 1 → badM (mtl l j) = false) := fun j hj' => by
     rcases Nat.lt_or_ge j k with h | h
     ·exact hj.out j h
     ·obtain rfl : j = k := by omega
      exact g
    rw [g] at hs
    rw [hm] at e0 e1 e2 e3 e4 hs
    dsimp only at e0 e1 e2 e3 e4 hs
    replace hs := hid hs
    clear g qk hm
    go_wp2_with fail
    refine (hs.out _ cB).mono ?_
    rintro e w1 ⟨rfl, hE⟩
    go_wp2_with fail
    go_roundw
    case rel => exact ⟨k + 1, by omega, by go_num, H, exE⟩
    case measure => simp [intOf]; omega
   | true =>
    have G := hid (any_yes hlt g)
    rw [g] at hs
    rw [hm] at e0 e1 e2 e3 e4 hs
    dsimp only at e0 e1 e2 e3 e4 hs
    replace hs := hid hs
    clear g qk hm
    go_wp2_with fail
    refine (hs.out _ cB).mono ?_
    rintro e w1 ⟨rfl, hE⟩
    go_wp2_with fail
    go_ret
    refine ⟨k, rfl, ?_, by omega, by omega, exE⟩
    rw [G.out]; simp
  ·have H := hid (any_no (l := l) fun j hj' => hj.out j (by omega))
   go_wp2_with fail
   go_ret
   exact ⟨-1, rfl, by rw [H.out]; decide, by omega, by omega, exE⟩
theorem conMet_any (l : List Met) (q : FitM l) (hl : l.length ≤ 1000) (a : Option Addr) (cap : Nat) (B : Nat) (w : World) (hM : Mts w a l) (hB : w.cell? ⟨B, 0, none⟩ = some (.func (.func 61) #[] #[])) :
 Calls Try.prog 64 #[.slice a l.length cap, (.func (.func 63) #[] #[.pointer (some ⟨B, 0, none⟩)])] w fun e w' => e = .returned (.bool (l.any badM)) ∧ Ext w w' := by
 go_enter Try.func64, Try.ntmps64
 go_wp2_with fail
 refine (idxMet_any l q hl a cap B _ hM hB).mono ?_
 rintro e w1 ⟨r, rfl, hr, r0, r1, hE⟩
 replace hr := hid hr
 go_wp2_with fail
 go_ret
 exact ⟨ret_bool hr.out, exE⟩
set_option maxHeartbeats 2000000 in
theorem checkMetals_any (l : List Met) (q : FitM l) (hl : l.length ≤ 1000) (a : Option Addr) (cap : Nat) (w : World) (hM : Mts w a l) :
 Calls Try.prog 23 #[.slice a l.length cap] w fun e w' => e = .returned (.int .i64 (chkM l)) ∧ Ext w w' := by
 have hn : I64 (l.length : Int) := ⟨by omega, by omega⟩
 have hM' := hid hM
 have hcon := hid (fun B W h1 h2 => conMet_any l q hl a cap B W h1 h2)
 have hd : chkM l = if inR 1 6 (l.length : Int) = false then 6 else if l.any badM then 3 else 0 := rfl
 cases g : inR 1 6 (l.length : Int) with
 | false =>
  have H := hid (show chkM l = 6 by rw [hd, if_pos g])
  clear hd
  go_enter Try.func23, Try.ntmps23
  go_wp2_with fail
  refine (within1_any 1 6 _ _ _ (by exact lit1 (by simp)) hn).mono ?_; rintro e w1 ⟨rfl, hE⟩
  rw [g]
  clear g
  go_wp2_with fail
  go_ret
  exact ⟨ret_int H.out.symm, exE⟩
 | true =>
  have hd2 : chkM l = if l.any badM then 3 else 0 := by rw [hd, if_neg (by rw [g]; simp)]
  clear hd
  cases g2 : l.any badM
  all_goals
   rw [g2] at hd2 hcon
   have H := hid hd2
   clear hd2 g2
   go_enter Try.func23, Try.ntmps23
   go_wp2_with fail
   refine (within1_any 1 6 _ _ _ (by exact lit1 (by simp)) hn).mono ?_; rintro e w1 ⟨rfl, hE⟩
   rw [g]
   have c0 := hE.cell (p := ⟨w.heap.size, 0, none⟩) (v := .func (.func 61) #[] #[]) (by simp [go_sem])
   clear g
   go_wp2_with fail
   refine (hcon.out w.heap.size _ (hM'.out.ext exE) c0).mono ?_; rintro e w2 ⟨rfl, hE2⟩
   go_wp2_with fail
   go_ret
   exact ⟨ret_int (by rw [H.out]; rfl), exE⟩
set_option maxHeartbeats 4000000 in
theorem checkMetalsR_any (l : List Met) (q : FitM l) (hl : l.length ≤ 1000) (a : Option Addr) (cap : Nat) (w : World) (hM : Mts w a l) :
 Calls Try.prog 24 #[.slice a l.length cap] w fun e w' => e = .returned (.int .i64 (chkM l)) ∧ Ext w w' := by
 have hd : chkM l = if inR 1 6 (l.length : Int) = false then 6 else if l.any badM then 3 else 0 := rfl
 by_cases g1 : 1 ≤ l.length ∧ l.length ≤ 6
 case neg =>
  have H := hid (show chkM l = 6 by rw [hd, if_pos (by simp [inR]; omega)])
  clear hd
  by_cases g2 : l.length < 1
  ·have g3 : (l.length : Int) < 1 := by omega
   go_enter Try.func24, Try.ntmps24
   go_wp2_with fail
   go_ret
   exact ⟨ret_int H.out.symm, exE⟩
  ·have g3 : ¬ (l.length : Int) < 1 := by omega
   have g4 : (6 : Int) < (l.length : Int) := by omega
   go_enter Try.func24, Try.ntmps24
   go_wp2_with fail
   go_ret
   exact ⟨ret_int H.out.symm, exE⟩
 case pos =>
  have hd2 : chkM l = if l.any badM then 3 else 0 := by rw [hd, if_neg (by simp [inR]; omega)]
  clear hd
  have g3 : ¬ (l.length : Int) < 1 := by omega
  have g4 : ¬ (6 : Int) < (l.length : Int) := by omega
  have hM' := hid hM
  have HD := hid hd2
  obtain ⟨b, off, rfl, hb, hc⟩ := hM.at (by omega)
  have HC := hid hc
  obtain ⟨N, hN⟩ : ∃ N, l.length = N := ⟨_, rfl⟩
  have hbad := hid (fun k (hk : k < l.length) (h : badM (mtl l k) = true) => any_yes hk h)
  have hno := hid (fun (h : ∀ k, k < l.length → badM (mtl l k) = false) => any_no h)
  rw [hN] at HC hbad hno g1 g3 g4 ⊢
  clear hM hc hd2 hl
  replace hN := hid hN
  go_enter Try.func24, Try.ntmps24
  go_wp2_with fail
  go_loopw [3] (fun i wr => ∃ k : Nat, k ≤ N ∧ i = .int .i64 k ∧ Hid (∀ j, j < k → badM (mtl l j) = false) ∧ Hid (Ext w wr)) (fun i _ => (N - intOf i).toNat)
  case atStart => exact ⟨0, by omega, rfl, hid (fun j hj => absurd hj (by omega)), hid (Ext.refl _)⟩
  case round =>
   obtain ⟨k, hk, rfl, hj, hx⟩ := hrel
   by_cases hlt : k < N
   ·obtain ⟨e0, e1, e2, e3, e4⟩ := (HC.out k hlt).ext hx.out
    have hbk := hbad.out k hlt
    have hstep : badM (mtl l k) = false → Hid (∀ j, j < k + 1 → badM (mtl l j) = false) := fun g => hid (fun j hj' => by
     rcases Nat.lt_or_ge j k with h | h
     ·exact hj.out j h
     ·obtain rfl : j = k := by omega
      exact g)
    have z1 := Go.IntWalk.i64_in ((k : Int) + 1) (by omega)
    have hkI : (k : Int) < (N : Int) := by omega
    obtain ⟨p, ll, lh, cl, ch, hm⟩ : ∃ p ll lh cl ch, mtl l k = ⟨p, ll, lh, cl, ch⟩ := ⟨_, _, _, _, _, rfl⟩
    have hbm : badM (mtl l k) = !(decide (0 ≤ p) && decide (p ≤ 1000) && isR ll lh && isR cl ch) := by rw [hm]; rfl
    rw [hm] at e0 e1 e2 e3 e4
    dsimp only at e0 e1 e2 e3 e4
    have r1 := hid (isRange_any ll lh)
    have r2 := hid (isRange_any cl ch)
    by_cases p1 : 0 ≤ p
    ·by_cases p2 : p ≤ 1000
     ·cases p3 : isR ll lh with
      | false =>
       have H := hid (show chkM l = 3 by rw [HD.out, hbk (by rw [hbm, p3, Bool.and_false, Bool.false_and]; rfl)]; rfl)
       rw [p3] at r1
       clear hbm hbk hstep p3 hm
       go_wp2_with fail
       refine (r1.out _).mono ?_; rintro e w1 ⟨rfl, hE⟩
       go_wp2_with fail
       go_ret
       exact ⟨ret_int H.out.symm, by have := hx.out; exact exE⟩
      | true =>
       rw [p3] at r1
       cases p4 : isR cl ch with
       | false =>
        have H := hid (show chkM l = 3 by rw [HD.out, hbk (by rw [hbm, p4, Bool.and_false]; rfl)]; rfl)
        rw [p4] at r2
        clear hbm hbk hstep p3 p4 hm
        go_wp2_with fail
        refine (r1.out _).mono ?_; rintro e w1 ⟨rfl, hE⟩
        have c0 := hE.cell (p := ⟨wr.heap.size, 0, none⟩) (v := .int .i64 p) (by simp [go_sem])
        have c1 := hE.cell (p := ⟨wr.heap.size, 1, none⟩) (v := .int .i64 ll) (by simp [go_sem])
        have c2 := hE.cell (p := ⟨wr.heap.size, 2, none⟩) (v := .int .i64 lh) (by simp [go_sem])
        have c3 := hE.cell (p := ⟨wr.heap.size, 3, none⟩) (v := .int .i64 cl) (by simp [go_sem])
        have c4 := hE.cell (p := ⟨wr.heap.size, 4, none⟩) (v := .int .i64 ch) (by simp [go_sem])
        go_wp2_with fail
        refine (r2.out _).mono ?_; rintro e w2 ⟨rfl, hE2⟩
        go_wp2_with fail
        go_ret
        exact ⟨ret_int H.out.symm, by have := hx.out; exact exE⟩
       | true =>
        have H := hstep (by rw [hbm, p3, p4, decide_eq_true p1, decide_eq_true p2]; rfl)
        rw [p4] at r2
        clear hbm hbk hstep p3 p4 hm
        go_wp2_with fail
        refine (r1.out _).mono ?_; rintro e w1 ⟨rfl, hE⟩
        have c0 := hE.cell (p := ⟨wr.heap.size, 0, none⟩) (v := .int .i64 p) (by simp [go_sem])
        have c1 := hE.cell (p := ⟨wr.heap.size, 1, none⟩) (v := .int .i64 ll) (by simp [go_sem])
        have c2 := hE.cell (p := ⟨wr.heap.size, 2, none⟩) (v := .int .i64 lh) (by simp [go_sem])
        have c3 := hE.cell (p := ⟨wr.heap.size, 3, none⟩) (v := .int .i64 cl) (by simp [go_sem])
        have c4 := hE.cell (p := ⟨wr.heap.size, 4, none⟩) (v := .int .i64 ch) (by simp [go_sem])
        go_wp2_with fail
        refine (r2.out _).mono ?_; rintro e w2 ⟨rfl, hE2⟩
        go_wp2_with fail
        go_roundw
        case rel => exact ⟨k + 1, by omega, by go_num, H, hid (hx.out.trans exE)⟩
        case measure => simp [intOf]; omega
     ·have H := hid (show chkM l = 3 by rw [HD.out, hbk (by rw [hbm, decide_eq_false p2, Bool.and_false, Bool.false_and, Bool.false_and]; rfl)]; rfl)
      have p3 : 1000 < p := by omega
      clear hbm hbk hstep hm
      go_wp2_with fail
      go_ret
      exact ⟨ret_int H.out.symm, by have := hx.out; exact exE⟩
    ·have H := hid (show chkM l = 3 by rw [HD.out, hbk (by rw [hbm, decide_eq_false p1, Bool.false_and, Bool.false_and, Bool.false_and]; rfl)]; rfl)
     have p3 : p < 0 := by omega
     clear hbm hbk hstep hm
     go_wp2_with fail
     go_ret
     exact ⟨ret_int H.out.symm, by have := hx.out; exact exE⟩
   ·have hkN : k = N := by omega
    have H := hid (show chkM l = 0 by rw [HD.out, hno.out (fun j hj' => hj.out j (by omega))]; rfl)
    have hnn : ¬ (N : Int) < (N : Int) := by omega
    rw [hkN]
    clear hkN hlt hk hj
    go_wp2_with fail
    go_ret
    exact ⟨ret_int H.out.symm, by have := hx.out; exact exE⟩
def mixE (p : List Int) (many : Nat) : Int :=
 if p.length ≠ many then 15 else if allIn 0 1000000 p = false then 3 else if allIn 0 0 p = true then 2 else 0
structure VldX (p : List Int) (many : Nat) : Prop where
 len : p.length = many
 nn : ∀ i, 0 ≤ nth p i
 le : ∀ i, nth p i ≤ 1000000
 ps : 0 < psum p
theorem mixE_ok {p : List Int} {many : Nat} : mixE p many = 0 ↔ VldX p many := by
 unfold mixE
 constructor
 ·intro h
  split at h
  ·cases h
  split at h
  ·cases h
  split at h
  ·cases h
  ·rename_i h1 h2 h3
   have hr : ∀ i, 0 ≤ nth p i ∧ nth p i ≤ 1000000 := fun i => by
    rcases Nat.lt_or_ge i p.length with g | g
    ·exact inR_iff.1 (allIn_iff.1 (by simpa using h2) i g)
    ·rw [nth_ge g]; omega
   have h0 := psum_nn fun i => (hr i).1
   exact ⟨by omega, fun i => (hr i).1, fun i => (hr i).2, by
    have := mt (psum_zero fun i => (hr i).1).1 h3
    omega⟩
 ·intro v
  have h0 := v.ps
  have h1 := v.len
  rw [if_neg (by omega), if_neg, if_neg]
  ·intro e
   have := (psum_zero v.nn).2 e
   omega
  ·rw [allIn_iff.2 fun i _ => inR_iff.2 ⟨v.nn i, v.le i⟩]; decide
set_option maxHeartbeats 1000000 in
theorem mixed_any (am : Option Addr) (cm : Nat) (p : List Int) (many : Nat) (hm : many ≤ 1000) (hq : ∀ i, I64 (nth p i)) (hl : p.length ≤ 1000) (a : Option Addr) (cap : Nat) (w : World) (hI : Ints w a p) :
 Calls Try.prog 56 #[.slice am many cm, .slice a p.length cap] w fun e w' => e = .returned (.int .i64 (mixE p many)) ∧ Ext w w' := by
 have hdef := hid (show mixE p many = if p.length ≠ many then 15 else if allIn 0 1000000 p = false then 3 else if allIn 0 0 p = true then 2 else 0 from rfl)
 have hI' := hid hI
 by_cases g : p.length = many
 case neg =>
  have H : Hid (mixE p many = 15) := hid (by rw [hdef.out, if_pos g])
  have g1 : ((p.length : Int) != (many : Int)) = true := by simpa using (show (p.length : Int) ≠ many by omega)
  replace g := hid g
  go_enter Try.func56, Try.ntmps56
  go_wp2_with fail
  go_ret
  exact ⟨ret_int H.out.symm, exE⟩
 case pos =>
  subst g
  cases g2 : allIn 0 1000000 p with
  | false =>
   have H : Hid (mixE p p.length = 3) := hid (by rw [hdef.out, g2]; simp)
   have G2 := hid g2
   clear g2
   go_enter Try.func56, Try.ntmps56
   go_wp2_with fail
   refine (within_any 0 1000000 a cap p _ hI (by omega) hq).mono ?_; rintro e w1 ⟨rfl, hE⟩
   rw [G2.out]
   go_wp2_with fail
   go_ret
   exact ⟨ret_int H.out.symm, exE⟩
  | true =>
   have G2 := hid g2
   cases g3 : allIn 0 0 p with
   | true =>
    have H : Hid (mixE p p.length = 2) := hid (by rw [hdef.out, g2, g3]; simp)
    have G3 := hid g3
    clear g2 g3
    go_enter Try.func56, Try.ntmps56
    go_wp2_with fail
    refine (within_any 0 1000000 a cap p _ hI (by omega) hq).mono ?_; rintro e w1 ⟨rfl, hE⟩
    rw [G2.out]
    go_wp2_with fail
    refine (within_any 0 0 a cap p _ (hI'.out.ext exE) (by omega) hq).mono ?_; rintro e w2 ⟨rfl, hE2⟩
    rw [G3.out]
    go_wp2_with fail
    go_ret
    exact ⟨ret_int H.out.symm, exE⟩
   | false =>
    have H : Hid (mixE p p.length = 0) := hid (by rw [hdef.out, g2, g3]; simp)
    have G3 := hid g3
    clear g2 g3
    go_enter Try.func56, Try.ntmps56
    go_wp2_with fail
    refine (within_any 0 1000000 a cap p _ hI (by omega) hq).mono ?_; rintro e w1 ⟨rfl, hE⟩
    rw [G2.out]
    go_wp2_with fail
    refine (within_any 0 0 a cap p _ (hI'.out.ext exE) (by omega) hq).mono ?_; rintro e w2 ⟨rfl, hE2⟩
    rw [G3.out]
    go_wp2_with fail
    go_ret
    exact ⟨ret_int H.out.symm, exE⟩
set_option maxHeartbeats 1000000 in
theorem mixtureErrorR_any (am : Option Addr) (cm : Nat) (p : List Int) (many : Nat) (hm : many ≤ 1000) (hq : ∀ i, I64 (nth p i)) (hl : p.length ≤ 1000) (a : Option Addr) (cap : Nat) (w : World) (hI : Ints w a p) :
 Calls Try.prog 59 #[.slice am many cm, .slice a p.length cap] w fun e w' => e = .returned (.int .i64 (mixE p many)) ∧ Ext w w' := by
 have hdef := hid (show mixE p many = if p.length ≠ many then 15 else if allIn 0 1000000 p = false then 3 else if allIn 0 0 p = true then 2 else 0 from rfl)
 have hI' := hid hI
 by_cases g : p.length = many
 case neg =>
  have H : Hid (mixE p many = 15) := hid (by rw [hdef.out, if_pos g])
  have g1 : ((p.length : Int) != (many : Int)) = true := by simpa using (show (p.length : Int) ≠ many by omega)
  replace g := hid g
  go_enter Try.func59, Try.ntmps59
  go_wp2_with fail
  go_ret
  exact ⟨ret_int H.out.symm, exE⟩
 case pos =>
  subst g
  have hq' := hid hq
  go_enter Try.func59, Try.ntmps59
  go_wp2_with fail
  go_loop [5] (fun i => ∃ k : Nat, k ≤ p.length ∧ i = .int .i64 k ∧ Hid (∀ j, j < k → inR 0 1000000 (nth p j) = true)) (fun i => (p.length - intOf i).toNat)
  case atStart => exact ⟨0, by omega, rfl, fun j hj => absurd hj (by omega)⟩
  case round =>
   obtain ⟨k, hk, rfl, hj⟩ := hrel
   by_cases hlt : k < p.length
   ·obtain ⟨b, off, rfl, _, hc⟩ := hI.at (by omega)
    have e0 := hc k hlt
    have bq := hq'.out k
    unfold I64 at bq
    clear hc
    by_cases hz : 0 ≤ nth p k ∧ nth p k ≤ 1000000
    ·have hj2 := hid (fun i (hi : i < k + 1) => show inR 0 1000000 (nth p i) = true by
      rcases Nat.lt_or_ge i k with h | h
      ·exact hj.out i h
      ·obtain rfl : i = k := by omega
       exact inR_iff.2 hz)
     obtain ⟨z1, z2⟩ := hz
     clear hj
     go_wp2_with fail
     go_round
     case rel => exact ⟨k + 1, by omega, by go_num, hj2.out⟩
     case measure => simp [intOf]; omega
    ·have H : Hid (mixE p p.length = 3) := hid (by
      rw [hdef.out, allIn_no hlt (by
       cases hb : inR 0 1000000 (nth p k) with
       | false => rfl
       | true => exact absurd (inR_iff.1 hb) hz)]; simp)
     have hz2 : nth p k < 0 ∨ 1000000 < nth p k := by omega
     clear hj hz
     rcases hz2 with hz2 | hz2
     all_goals
      go_wp2_with fail
      go_ret
      exact ⟨ret_int H.out.symm, Ext.refl _⟩
   ·have hall := allIn_iff.2 (fun i hi => hj.out i (show i < k by omega))
    have hnn : ∀ i, 0 ≤ nth p i ∧ nth p i ≤ 1000000 := fun i => by
     rcases Nat.lt_or_ge i p.length with h | h
     ·exact inR_iff.1 (hj.out i (by omega))
     ·rw [nth_ge h]; omega
    have hz := hid (psum_zero fun i => (hnn i).1)
    have hnn := hid hnn
    have hall := hid hall
    clear hj
    by_cases g3 : psum p = 0
    ·have H : Hid (mixE p p.length = 2) := hid (by rw [hdef.out, hall.out, (hz.out).1 g3]; simp)
     have G3 := hid g3
     clear g3
     go_wp2_with fail
     refine (sumR_any p (fun i => ⟨(hnn.out i).1, by have := (hnn.out i).2; omega⟩) hl a cap _ hI'.out).mono ?_; rintro e w1 ⟨rfl, hE⟩
     rw [G3.out]
     go_wp2_with fail
     go_ret
     exact ⟨ret_int H.out.symm, exE⟩
    ·have H : Hid (mixE p p.length = 0) := hid (by
      have h0 : ¬ allIn 0 0 p = true := fun h => g3 ((hz.out).2 h)
      rw [hdef.out, hall.out, if_neg (by simp), if_neg (by simp), if_neg h0])
     have g4 : (psum p == 0) = false := by simpa using g3
     have G3 := hid g3
     clear g3
     go_wp2_with fail
     refine (sumR_any p (fun i => ⟨(hnn.out i).1, by have := (hnn.out i).2; omega⟩) hl a cap _ hI'.out).mono ?_; rintro e w1 ⟨rfl, hE⟩
     go_wp2_with fail
     go_ret
     exact ⟨ret_int H.out.symm, exE⟩
theorem elemI64 : ElemI Try.prog 2 := elemI_mk (by kernel_rfl)
def mkL (n : Nat) (f : Nat → Int) : List Int := (List.range n).map f
theorem mkL_len (n : Nat) (f : Nat → Int) : (mkL n f).length = n := by simp [mkL]
theorem mkL_nth {n : Nat} (f : Nat → Int) {k : Nat} (h : k < n) : nth (mkL n f) k = f k := nth_map_range f n k h
theorem mkL_set {n : Nat} (f : Nat → Int) (j : Nat) (y : Int) : (mkL n f).set j y = mkL n (fun k => if k = j then y else f k) := by
 refine List.ext_getElem (by simp [mkL]) fun i h1 h2 => ?_
 simp only [mkL, List.getElem_set, List.getElem_map, List.getElem_range]
 by_cases h : j = i
 ·subst h; simp
 ·rw [if_neg h, if_neg (fun e => h e.symm)]
def RetI (l : List Int) (w : World) (e : Ending) (w' : World) : Prop := ∃ a cap, e = .returned (.slice a l.length cap) ∧ Ints w' a l ∧ Ext w w'
def Wrds (w : World) (a : Option Addr) (l : List Int) : Prop :=
 ∀ i, i < l.length → ∃ b off, a = some ⟨b, off, none⟩ ∧ w.cell? ⟨b, off + i, none⟩ = some (.int .u16 (nth l i))
theorem Wrds.ext {w w' : World} {a : Option Addr} {l : List Int} (h : Wrds w a l) (k : Ext w w') : Wrds w' a l :=
 fun i hi => let ⟨b, off, ha, hc⟩ := h i hi; ⟨b, off, ha, k.cell hc⟩
def plN (l : List Int) (i : Nat) : Int := if l.length = 0 then 0 else nth l (i % l.length)
def pln (m : Nat) (l : List Int) : List Int := if psum (mkL m (plN l)) = 0 then mkL m (fun i => if i = 0 then 1 else plN l i) else mkL m (plN l)
theorem mkL_snoc (k : Nat) (f : Nat → Int) : mkL (k + 1) f = mkL k f ++ [f k] := by unfold mkL; rw [List.range_succ, List.map_append]; rfl
theorem plN_bd {l : List Int} (h : ∀ i, 0 ≤ nth l i ∧ nth l i ≤ 65535) (i : Nat) : 0 ≤ plN l i ∧ plN l i ≤ 65535 := by
 unfold plN; split
 ·omega
 ·exact h _
theorem nth_mkL_out {n : Nat} {f : Nat → Int} {i : Nat} (h : n ≤ i) : nth (mkL n f) i = 0 := nth_ge (by rw [mkL_len]; exact h)
theorem pln_len (m : Nat) (l : List Int) : (pln m l).length = m := by unfold pln; split <;> exact mkL_len _ _
theorem pln_vld {m : Nat} {l : List Int} (h : ∀ i, 0 ≤ nth l i ∧ nth l i ≤ 65535) (m1 : 1 ≤ m) : VldX (pln m l) m := by
 have hb : ∀ i, 0 ≤ nth (pln m l) i ∧ nth (pln m l) i ≤ 65535 := fun i => by
  unfold pln
  rcases Nat.lt_or_ge i m with g | g
  ·split
   ·rw [mkL_nth _ g]; (try dsimp only); split
    ·omega
    ·exact plN_bd h i
   ·rw [mkL_nth _ g]; exact plN_bd h i
  ·split <;> (rw [nth_mkL_out g]; omega)
 refine ⟨pln_len m l, fun i => (hb i).1, fun i => by have := (hb i).2; omega, ?_⟩
 unfold psum
 rw [pln_len]
 by_cases hs : psum (mkL m (plN l)) = 0
 ·have e : nth (pln m l) 0 = 1 := by unfold pln; rw [if_pos hs, mkL_nth _ (by omega)]; rfl
  exact sm_pos (fun i _ => (hb i).1) (i := 0) (by omega) (by omega)
 ·have e : pln m l = mkL m (plN l) := by unfold pln; rw [if_neg hs]
  rw [e]
  have h0 : 0 ≤ psum (mkL m (plN l)) := psum_nn fun i => by have := (hb i).1; rwa [e] at this
  unfold psum at hs h0
  rw [mkL_len] at hs h0
  omega
set_option maxHeartbeats 4000000 in
theorem mixedL_any (m : Nat) (m4 : m ≤ 6) (l : List Int) (h : ∀ i, 0 ≤ nth l i ∧ nth l i ≤ 65535) (hl : l.length ≤ 9223372036854775807) (a : Option Addr) (cap : Nat) (w : World) (hI : Wrds w a l) :
 Calls Try.prog 43 #[.int .i64 m, .slice a l.length cap] w (RetI (pln m l) w) := by
 have hI' := hid hI
 have hbd := hid (plN_bd h)
 have hpn : Hid (∀ i, plN l i = if l.length = 0 then 0 else nth l (i % l.length)) := hid fun i => rfl
 have hpl : Hid (pln m l = if psum (mkL m (plN l)) = 0 then mkL m (fun i => if i = 0 then 1 else plN l i) else mkL m (plN l)) := hid rfl
 have hsm := hid (fun a cap W hW => sumR_any (mkL m (plN l)) (fun i => by
  rcases Nat.lt_or_ge i m with g | g
  ·rw [mkL_nth _ g]; have := plN_bd h i; omega
  ·rw [nth_mkL_out g]; omega) (by rw [mkL_len]; omega) a cap W hW)
 rw [mkL_len] at hsm
 obtain ⟨f, hf⟩ : ∃ f, plN l = f := ⟨_, rfl⟩
 rw [hf] at hbd hpn hpl hsm
 replace hf := hid hf
 obtain ⟨n, hn⟩ : ∃ n, l.length = n := ⟨_, rfl⟩
 rw [hn] at hpn hl ⊢
 have hww : Hid (∀ i, i < n → ∃ b off, a = some ⟨b, off, none⟩ ∧ w.cell? ⟨b, off + i, none⟩ = some (.int .u16 (nth l i))) := hid (by rw [← hn]; exact hI)
 replace hn := hid hn
 clear hI h
 go_enter Try.func43, Try.ntmps43
 go_wp2_with fail
 go_loopw [5, 6] (fun s i wr => ∃ k : Nat, k ≤ m ∧ i = .int .i64 k ∧ Hid (OwnI wr w.heap.size 2 s (mkL k f)) ∧ Hid (Ext w wr)) (fun _ i _ => (m - intOf i).toNat)
 case atStart => exact ⟨0, by omega, rfl, hid (OwnI.nil _ _ _), hid (Ext.refl _)⟩
 case round =>
  obtain ⟨k, hk, rfl, ho, hx⟩ := hrel
  by_cases hkl : k < m
  ·have hst := hid (mkL_snoc k f)
   have hlk := hid (mkL_len k f)
   have hfb := hbd.out k
   have hpk := hid (hpn.out k)
   have u2 := Go.IntWalk.i64_in ((k : Int) + 1) (by omega)
   have hkl2 : (k : Int) < (m : Int) := by omega
   obtain ⟨x, hxv⟩ : ∃ x, f k = x := ⟨_, rfl⟩
   rw [hxv] at hst hfb hpk
   replace hxv := hid hxv
   obtain ⟨s0, hs0⟩ : ∃ s0, mkL k f = s0 := ⟨_, rfl⟩
   rw [hs0] at ho hst hlk
   replace hs0 := hid hs0
   by_cases hn0 : n = 0
   ·rw [if_pos hn0] at hpk
    have hx0 : x = 0 := hpk.out
    subst hx0
    subst hn0
    clear hpk
    go_wp2_with (at_builtin; refine app_int rfl _ _ _ rfl 2 Try.underlying25 elemI64 w.heap.size s0 0 _ rfl _ rfl (ho.out.ext exE) ?c1 ?c2 ?c3 ?_; (case c1 => simp [go_sem]); (case c2 => rw [hlk.out]; omega); (case c3 => have := Ext.size hx.out; simp; omega); intro b9 cp9 w9 own9 ext9 hb9 g9; have own9 := hid own9; have hE9 := hid (ext9 w (by have := hx.out; exact exE) (Nat.le_refl _)))
    go_roundw
    case rel => exact ⟨k + 1, by omega, by go_num, hid (by rw [hst.out]; have h := own9.out; simp only [List.length_append, List.length_singleton] at h; exact h), hE9⟩
    case measure => simp [intOf]; omega
   ·rw [if_neg hn0] at hpk
    have hn1 : 0 < n := by omega
    have hmod := Nat.mod_lt k hn1
    obtain ⟨b, off, rfl, hc⟩ := hww.out _ hmod
    replace hc := hx.out.cell hc
    rw [← hpk.out] at hc
    have hn2 : (0 : Int) < (n : Int) := by omega
    have e1 : ((k : Int)).tmod (n : Int) = ((k % n : Nat) : Int) := by rw [Int.tmod_eq_emod_of_nonneg (by omega)]; rfl
    have e0 : ((n : Int) == 0) = false := by rw [beq_eq_false_iff_ne]; omega
    have e3 : (n : Int) ≠ 0 := by omega
    obtain ⟨r, hr⟩ : ∃ r, k % n = r := ⟨_, rfl⟩
    rw [hr] at hc e1 hmod
    replace hr := hid hr
    clear hpk
    go_wp2_with (at_builtin; refine app_int rfl _ _ _ rfl 2 Try.underlying25 elemI64 w.heap.size s0 x _ rfl _ rfl (ho.out.ext exE) ?c1 ?c2 ?c3 ?_; (case c1 => simp [go_sem]); (case c2 => rw [hlk.out]; omega); (case c3 => have := Ext.size hx.out; simp; omega); intro b9 cp9 w9 own9 ext9 hb9 g9; have own9 := hid own9; have hE9 := hid (ext9 w (by have := hx.out; exact exE) (Nat.le_refl _)))
    go_roundw
    case rel => exact ⟨k + 1, by omega, by go_num, hid (by rw [hst.out]; have h := own9.out; simp only [List.length_append, List.length_singleton] at h; exact h), hE9⟩
    case measure => simp [intOf]; omega
  ·have hkm : k = m := by omega
   have hnl : ¬ (k : Int) < (m : Int) := by omega
   rw [hkm] at ho
   have hnm : ¬ (m : Int) < (m : Int) := by omega
   have hlm := hid (mkL_len m f)
   by_cases hm0 : m = 0
   ·obtain ⟨aa, cc, rfl, hIs⟩ := ho.out.slice
    have hz : ¬ (0 : Int) < (m : Int) := by omega
    have hp0 : Hid (pln m l = mkL m f) := hid (by
     rw [hpl.out, hm0]
     split <;> rfl)
    replace hIs := hid hIs
    rw [hlm.out]
    clear hkm hm0 hsm
    go_wp2_with fail
    go_ret
    exact ⟨aa, cc, by rw [hp0.out, hlm.out]; rfl, by rw [hp0.out]; exact hIs.out, hx.out⟩
   ·have hm1 : 0 < m := by omega
    obtain ⟨gg, cc, rfl⟩ : ∃ gg cc, u5 = .slice (some ⟨gg, 0, none⟩) m cc := by
     rcases ho.out.2 with ⟨e1, e2⟩ | ⟨g, cap', cur, e1, _⟩
     ·exfalso; rw [hlm.out] at e2; omega
     ·exact ⟨g, cap', by rw [e1, hlm.out]⟩
    have hfa := ho.out.facts (j := 0) (by rw [hlm.out]; exact hm1)
    have q0 := hfa.1
    have q1 := hfa.2.1
    have hown := hid (show OwnI wr w.heap.size 2 (.slice (some ⟨gg, 0, none⟩) (mkL m f).length cc) (mkL m f) by rw [hlm.out]; exact ho.out)
    have hIs := hid (show Ints wr (some ⟨gg, 0, none⟩) (mkL m f) by
     obtain ⟨a', c', e', hi⟩ := hown.out.slice
     simp only [Value.slice.injEq] at e'
     rw [e'.1]; exact hi)
    have hgw := hid ((ho.out.block gg (by simp [Value.ownBlock])).1)
    have hz : (0 : Int) < (m : Int) := by omega
    obtain ⟨ps, hps⟩ : ∃ x, psum (mkL m f) = x := ⟨_, rfl⟩
    rw [hps] at hsm hpl
    replace hps := hid hps
    obtain ⟨q9, hq9⟩ : ∃ x, nth (mkL m f) 0 = x := ⟨_, rfl⟩
    rw [hq9] at q0
    replace hq9 := hid hq9
    clear hfa hkm ho
    by_cases hs : ps = 0
    ·have e0 : (ps == 0) = true := by rw [beq_iff_eq]; exact hs
     rw [if_pos hs] at hpl
     replace hs := hid hs
     go_wp2_with fail
     refine (hsm.out _ _ _ (hIs.out.ext exE)).mono ?_; rintro e w5 ⟨rfl, hE5⟩
     have x5 : Ext wr w5 := exE
     have q1 := (x5.frozen (cell_lt q0)).trans q1
     have q0 := x5.cell q0
     have h2 := OwnI.set (l := mkL m f) (hown.out.ext x5) (i := 0) 1
     rw [mkL_set, mkL_len] at h2
     have hI5 := hid (show Ints (w5.setCell ⟨gg, 0, none⟩ (.int .i64 1)) (some ⟨gg, 0, none⟩) (pln m l) by
      rw [hpl.out]
      obtain ⟨a', c', e', hi⟩ := h2.slice
      simp only [Value.slice.injEq] at e'
      rw [e'.1]; exact hi)
     have hl5 := hid (pln_len m l)
     have hX5 := hid (hx.out.trans x5)
     have hg5 := hgw.out
     clear h2 hE5 x5
     go_wp2_with fail
     go_ret
     exact ⟨_, cc, by rw [hl5.out]; rfl, hI5.out, hX5.out.setCell (by simp; omega) _⟩
    ·have e0 : (ps == 0) = false := by rw [beq_eq_false_iff_ne]; exact hs
     rw [if_neg hs] at hpl
     go_wp2_with fail
     refine (hsm.out _ _ _ (hIs.out.ext exE)).mono ?_; rintro e w5 ⟨rfl, hE5⟩
     have x5 : Ext wr w5 := exE
     have hI5 := hid (show Ints w5 (some ⟨gg, 0, none⟩) (pln m l) by rw [hpl.out]; exact hIs.out.ext x5)
     have hl5 := hid (pln_len m l)
     have hX5 := hid (hx.out.trans x5)
     clear hE5 x5
     go_wp2_with fail
     go_ret
     exact ⟨_, cc, by rw [hl5.out]; rfl, hI5.out, hX5.out⟩
theorem mxTo_congr {f g : Nat → Int} {n : Nat} (h0 : 0 < n) (h : ∀ i, i < n → f i = g i) : mxTo f n = mxTo g n := by
 induction n with
 | zero => omega
 | succ n ih =>
  simp only [mxTo]
  rw [h n (by omega)]
  by_cases hn : 0 < n
  ·rw [ih hn fun i hi => h i (by omega)]
  ·obtain rfl : n = 0 := by omega
   simp only [mxTo]
   rw [h 0 (by omega)]
theorem minIf (a b : Int) : (if b < a then b else a) = min a b := by split <;> omega
theorem maxIf (a b : Int) : (if a < b then b else a) = max a b := by split <;> omega
set_option maxHeartbeats 1000000 in
theorem min_any (a : Option Addr) (cap : Nat) (l : List Int) (n : Nat) (hn : n = l.length) (w : World) (hI : Ints w a l) (h0 : 0 < l.length) (hl : l.length ≤ 1099511627776) (hq : ∀ i, I64 (nth l i)) :
  Calls Try.prog 114 #[.slice a n cap] w fun e w' => e = .returned (.int .i64 (mnTo (nth l) l.length)) ∧ w = w' := by
  subst hn
  obtain ⟨b, off, rfl, hb, hc⟩ := hI.at h0
  have z := hc 0 h0
  rw [Nat.add_zero] at z
  have h1 : mnTo (nth l) 1 = nth l 0 := by simp [mnTo]
  replace h1 := hid h1
  replace hc := hid hc
  have n1 : ¬ ((l.length : Int) < 1) := by omega
  go_enter Try.func114, Try.ntmps114
  go_wp2_with fail
  go_loop [3, 4] (fun m i => ∃ k : Nat, 1 ≤ k ∧ k ≤ l.length ∧ i = .int .i64 k ∧ m = .int .i64 (mnTo (nth l) k)) (fun _ i => (l.length - intOf i).toNat)
  case atStart => exact ⟨1, by omega, by omega, rfl, by rw [h1.out]⟩
  case round =>
   obtain ⟨k, hk1, hk, rfl, rfl⟩ := hrel
   by_cases hlt : k < l.length
   ·have z := hc.out k hlt
    have hs : Hid (mnTo (nth l) (k + 1) = min (mnTo (nth l) k) (nth l k)) := hid rfl
    generalize mnTo (nth l) k = m at *
    generalize nth l k = x at *
    go_wp2_with fail
    go_round
    case rel => exact ⟨k + 1, by omega, by omega, by go_num, by rw [hs.out, ← minIf]⟩
    case measure => simp [intOf]; omega
   ·obtain rfl : k = l.length := by omega
    go_wp2_with fail
    go_ret
    exact ⟨rfl, rfl⟩
set_option maxHeartbeats 1000000 in
theorem max_any (a : Option Addr) (cap : Nat) (l : List Int) (n : Nat) (hn : n = l.length) (w : World) (hI : Ints w a l) (h0 : 0 < l.length) (hl : l.length ≤ 1099511627776) (hq : ∀ i, I64 (nth l i)) :
  Calls Try.prog 113 #[.slice a n cap] w fun e w' => e = .returned (.int .i64 (mxTo (nth l) l.length)) ∧ w = w' := by
  subst hn
  obtain ⟨b, off, rfl, hb, hc⟩ := hI.at h0
  have z := hc 0 h0
  rw [Nat.add_zero] at z
  have h1 : mxTo (nth l) 1 = nth l 0 := by simp [mxTo]
  replace h1 := hid h1
  replace hc := hid hc
  have n1 : ¬ ((l.length : Int) < 1) := by omega
  go_enter Try.func113, Try.ntmps113
  go_wp2_with fail
  go_loop [3, 4] (fun m i => ∃ k : Nat, 1 ≤ k ∧ k ≤ l.length ∧ i = .int .i64 k ∧ m = .int .i64 (mxTo (nth l) k)) (fun _ i => (l.length - intOf i).toNat)
  case atStart => exact ⟨1, by omega, by omega, rfl, by rw [h1.out]⟩
  case round =>
   obtain ⟨k, hk1, hk, rfl, rfl⟩ := hrel
   by_cases hlt : k < l.length
   ·have z := hc.out k hlt
    have hs : Hid (mxTo (nth l) (k + 1) = max (mxTo (nth l) k) (nth l k)) := hid rfl
    generalize mxTo (nth l) k = m at *
    generalize nth l k = x at *
    go_wp2_with fail
    go_round
    case rel => exact ⟨k + 1, by omega, by omega, by go_num, by rw [hs.out, ← maxIf]⟩
    case measure => simp [intOf]; omega
   ·obtain rfl : k = l.length := by omega
    go_wp2_with fail
    go_ret
    exact ⟨rfl, rfl⟩
theorem max_mk (g M : Nat) (h0 : 0 < M) (h9 : M ≤ 1000) (f : Nat → Int) (hq : ∀ i, I64 (f i)) (cap : Nat) (w : World) (hI : Ints w (some ⟨g, 0, none⟩) (mkL M f)) :
 Calls Try.prog 113 #[.slice (some ⟨g, 0, none⟩) M cap] w fun e w' => e = .returned (.int .i64 (mxTo f M)) ∧ w = w' := by
 have hl := mkL_len M f
 refine (max_any (some ⟨g, 0, none⟩) cap (mkL M f) M hl.symm w hI (by omega) (by omega) (fun i => ?_)).mono ?_
 ·rcases Nat.lt_or_ge i M with k | k
  ·rw [mkL_nth f k]; exact hq i
  ·rw [nth_ge (by rw [hl]; exact k)]; exact ⟨by omega, by omega⟩
 ·rintro e w' ⟨rfl, rfl⟩
  rw [hl, mxTo_congr h0 fun i hi => mkL_nth f hi]
  exact ⟨rfl, rfl⟩
theorem min_mk (g M : Nat) (h0 : 0 < M) (h9 : M ≤ 1000) (f : Nat → Int) (hq : ∀ i, I64 (f i)) (cap : Nat) (w : World) (hI : Ints w (some ⟨g, 0, none⟩) (mkL M f)) :
 Calls Try.prog 114 #[.slice (some ⟨g, 0, none⟩) M cap] w fun e w' => e = .returned (.int .i64 (mnTo f M)) ∧ w = w' := by
 have hl := mkL_len M f
 refine (min_any (some ⟨g, 0, none⟩) cap (mkL M f) M hl.symm w hI (by omega) (by omega) (fun i => ?_)).mono ?_
 ·rcases Nat.lt_or_ge i M with k | k
  ·rw [mkL_nth f k]; exact hq i
  ·rw [nth_ge (by rw [hl]; exact k)]; exact ⟨by omega, by omega⟩
 ·rintro e w' ⟨rfl, rfl⟩
  rw [hl, mnTo_congr h0 fun i hi => mkL_nth f hi]
  exact ⟨rfl, rfl⟩
def ngF (f : Nat → Int) (k r : Nat) : Int := if r < k then - f r else f r
theorem ngF_zero (f : Nat → Int) : ngF f 0 = f := by funext r; unfold ngF; rw [if_neg (by omega)]
theorem ngF_step (f : Nat → Int) (k : Nat) : (fun r => if r = k then - f k else ngF f k r) = ngF f (k + 1) := by
 funext r
 unfold ngF
 by_cases h : r = k
 ·subst h; rw [if_pos rfl, if_pos (by omega)]
 ·rw [if_neg h]
  by_cases g : r < k
  ·rw [if_pos g, if_pos (by omega)]
  ·rw [if_neg g, if_neg (by omega)]
theorem ngF_at (f : Nat → Int) (k : Nat) : ngF f k k = f k := by unfold ngF; rw [if_neg (by omega)]
end Go.Proofs.Ytpnfhcnnodolbaa
