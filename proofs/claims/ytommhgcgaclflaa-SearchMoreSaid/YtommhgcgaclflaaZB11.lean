/- Texts of one proof, laid together: SA, SB. -/
import Derived.Test.YtommhgcgaclflaaZB7
import Derived.Test.YtommhgcgaclflaaZB6
import Derived.Test.YtommhgcgaclflaaProg
import Derived.OwnWalk
import Derived.IntWalk
import Derived.Deep.RegionHeld3
import Derived.Deep.QuietTactic
import Derived.BigQuiet
import Derived.StillTailTactics
namespace Go.Proofs.Ytommhgcgaclflaa
set_option linter.unusedVariables false
set_option linter.unusedSimpArgs false
set_option linter.unusedSectionVars false
set_option linter.unnecessarySimpa false
open Go Go.RowKit Game
set_option maxRecDepth 100000

theorem withinF_any (n lo hi : Int) (p q : Addr) (w : World) (h1 : I64 n) (c1 : w.cell? p = some (.int .i64 lo)) (c2 : w.cell? q = some (.int .i64 hi)) :
 Calls Try.prog 94 #[.int .i64 n, .pointer (some p), .pointer (some q)] w fun e w' => e = .returned (.bool (!inR lo hi n)) ∧ w = w' := by
 by_cases g1 : n < lo
 ·have H := hid (show inR lo hi n = false by simp [inR]; omega)
  go_enter Try.func94, Try.ntmps94
  go_wp2
  go_ret
  exact ⟨ret_bool (by rw [H.out]; rfl), rfl⟩
 by_cases g2 : hi < n
 ·have H := hid (show inR lo hi n = false by simp [inR]; omega)
  go_enter Try.func94, Try.ntmps94
  go_wp2
  go_ret
  exact ⟨ret_bool (by rw [H.out]; rfl), rfl⟩
 ·have H := hid (show inR lo hi n = true by simp [inR]; omega)
  go_enter Try.func94, Try.ntmps94
  go_wp2
  go_ret
  exact ⟨ret_bool (by rw [H.out]; rfl), rfl⟩

def IdxP (b : Bool) (w : World) (e : Ending) (w' : World) : Prop := ∃ r : Int, e = .returned (.int .i64 r) ∧ decide (0 ≤ r) = b ∧ -1 ≤ r ∧ r ≤ 9223372036854775807 ∧ w = w'

set_option maxHeartbeats 400000 in
theorem indexF_any (lo hi : Int) (p q : Addr) (a : Option Addr) (cap : Nat) (l : List Int) (w : World) (hI : Ints w a l) (hl : l.length ≤ 1099511627776) (hq : ∀ i, I64 (nth l i))
 (c1 : w.cell? p = some (.int .i64 lo)) (c2 : w.cell? q = some (.int .i64 hi)) :
 Calls Try.prog 109 #[.slice a l.length cap, .func (.func 94) #[] #[.pointer (some p), .pointer (some q)]] w (IdxP (!allIn lo hi l) w) := by
 go_enter Try.func109, Try.ntmps109
 go_wp2_with fail
 go_loop [8] (fun i => ∃ k : Nat, k ≤ l.length ∧ i = .int .i64 k ∧ Hid (∀ j, j < k → inR lo hi (nth l j) = true)) (fun i => (l.length - intOf i).toNat)
 case atStart => exact ⟨0, by omega, rfl, fun j hj => absurd hj (by omega)⟩
 case round =>
  obtain ⟨k, hk, rfl, hj⟩ := hrel
  by_cases hlt : k < l.length
  ·obtain ⟨b, off, rfl, hb, hc⟩ := hI.at (by omega)
   have hck := hc k hlt
   clear hc
   cases g : inR lo hi (nth l k) with
   | false =>
    have g0 : (!inR lo hi (nth l k)) = true := by rw [g]; rfl
    have G := hid g
    clear g
    go_wp2_with fail
    refine (withinF_any _ lo hi p q _ (hq k) c1 c2).mono ?_
    rintro e w1 ⟨rfl, rfl⟩
    go_wp2_with fail
    go_ret
    refine ⟨k, rfl, ?_, by omega, by omega, rfl⟩
    rw [allIn_no hlt G.out]; simp
   | true =>
    have g0 : (!inR lo hi (nth l k)) = false := by rw [g]; rfl
    have G := hid g
    clear g
    go_wp2_with fail
    refine (withinF_any _ lo hi p q _ (hq k) c1 c2).mono ?_
    rintro e w1 ⟨rfl, rfl⟩
    go_wp2_with fail
    go_round
    case rel =>
     refine ⟨k + 1, by omega, by go_num, fun j hj' => ?_⟩
     rcases Nat.lt_or_ge j k with h | h
     ·exact hj.out j h
     ·obtain rfl : j = k := by omega
      exact G.out
    case measure => simp [intOf]; omega
  ·go_wp2_with fail
   go_ret
   refine ⟨-1, rfl, ?_, by omega, by omega, rfl⟩
   rw [allIn_iff.2 fun i hi => hj.out i (by omega)]
   decide

theorem containsF_any (lo hi : Int) (p q : Addr) (a : Option Addr) (cap : Nat) (l : List Int) (w : World) (hI : Ints w a l) (hl : l.length ≤ 1099511627776) (hq : ∀ i, I64 (nth l i))
 (c1 : w.cell? p = some (.int .i64 lo)) (c2 : w.cell? q = some (.int .i64 hi)) :
 Calls Try.prog 93 #[.slice a l.length cap, .func (.func 94) #[] #[.pointer (some p), .pointer (some q)]] w fun e w' => e = .returned (.bool (!allIn lo hi l)) ∧ w = w' := by
 go_enter Try.func93, Try.ntmps93
 go_wp2_with fail
 refine (indexF_any lo hi p q a cap l _ hI hl hq c1 c2).mono ?_
 rintro e w1 ⟨r, rfl, hr, r0, r1, rfl⟩
 replace hr := hid hr
 go_wp2_with fail
 go_ret
 exact ⟨ret_bool hr.out, rfl⟩

theorem within_any (lo hi : Int) (a : Option Addr) (cap : Nat) (l : List Int) (w : World) (hI : Ints w a l) (hl : l.length ≤ 1099511627776) (hq : ∀ i, I64 (nth l i)) :
 Calls Try.prog 69 #[.int .i64 lo, .int .i64 hi, .slice a l.length cap] w fun e w' => e = .returned (.bool (allIn lo hi l)) ∧ Ext w w' := by
 go_enter Try.func69, Try.ntmps69
 go_wp2_with fail
 refine (containsF_any lo hi _ _ a cap l _ (Ints.ext hI (by repeat (with_reducible first | assumption | exact Ext.refl _ | refine Ext.drew ?_ | refine Ext.drewN ?_ _ | refine Ext.alloc ?_ _ | refine xS ?_ _ | refine xT ?_ (by assumption)))) hl hq (by simp [go_sem]) (by simp [go_sem])).mono ?_
 rintro e w1 ⟨rfl, rfl⟩
 go_wp2_with fail
 go_ret
 exact ⟨ret_bool (by simp), (by repeat (with_reducible first | assumption | exact Ext.refl _ | refine Ext.drew ?_ | refine Ext.drewN ?_ _ | refine Ext.alloc ?_ _ | refine xS ?_ _ | refine xT ?_ (by assumption)))⟩


theorem lit1 {w : World} {x : Int} {t : TypeId} {n : Nat} (h : n = w.heap.size) : Ints (w.alloc (.cells #[.int .i64 x] t)) (some ⟨n, 0, none⟩) [x] := by
 subst h
 intro i hi
 refine ⟨_, _, rfl, ?_⟩
 obtain rfl : i = 0 := by simp at hi; omega
 simp [nth]
theorem lit2 {w : World} {x y : Int} {t : TypeId} {n : Nat} (h : n = w.heap.size) : Ints (w.alloc (.cells #[.int .i64 x, .int .i64 y] t)) (some ⟨n, 0, none⟩) [x, y] := by
 subst h
 intro i hi
 refine ⟨_, _, rfl, ?_⟩
 have : i = 0 ∨ i = 1 := by simp at hi; omega
 rcases this with rfl | rfl <;> simp [nth]
theorem i64_one {x : Int} (h : I64 x) (i : Nat) : I64 (nth [x] i) := by
 match i with
 | 0 => simpa [nth] using h
 | i + 1 => simp [nth, I64]
theorem i64_two {x y : Int} (h : I64 x) (h' : I64 y) (i : Nat) : I64 (nth [x, y] i) := by
 match i with
 | 0 => simpa [nth] using h
 | 1 => simpa [nth] using h'
 | i + 2 => simp [nth, I64]

theorem within1_any (lo hi x : Int) (b : Nat) (w : World) (hI : Ints w (some ⟨b, 0, none⟩) [x]) (hx : I64 x) :
 Calls Try.prog 69 #[.int .i64 lo, .int .i64 hi, .slice (some ⟨b, 0, none⟩) 1 1] w fun e w' => e = .returned (.bool (inR lo hi x)) ∧ Ext w w' := by
 have := within_any lo hi _ 1 [x] w hI (by simp) (i64_one hx)
 rwa [allIn_one] at this

theorem sm_bd {n : Nat} {f : Nat → Int} {B : Int} (h : ∀ i, i < n → 0 ≤ f i ∧ f i ≤ B) : 0 ≤ sm n f ∧ sm n f ≤ B * n := by
 induction n with
 | zero => simp [sm]
 | succ n ih =>
  have := ih fun i hi => h i (by omega)
  have := h n (by omega)
  rw [show B * ((n + 1 : Nat) : Int) = B * n + B by rw [Int.natCast_add, Int.mul_add]; simp]
  simp only [sm]; omega

set_option maxHeartbeats 400000 in
theorem sum_any (p : List Int) (h : ∀ i, 0 ≤ nth p i ∧ nth p i ≤ 100000000) (hl : p.length ≤ 1000) (a : Option Addr) (cap : Nat) (w : World) (hI : Ints w a p) :
 Calls Try.prog 91 #[.slice a p.length cap] w fun e w' => e = .returned (.int .i64 (psum p)) ∧ Ext w w' := by
 go_enter Try.func91, Try.ntmps91
 go_wp2_with fail
 go_loop [3, 8] (fun s i => ∃ k : Nat, k ≤ p.length ∧ i = .int .i64 k ∧ s = .int .i64 (sm k (nth p))) (fun _ i => (p.length - intOf i).toNat)
 case atStart => exact ⟨0, by omega, rfl, rfl⟩
 case round =>
  obtain ⟨k, hk, rfl, rfl⟩ := hrel
  by_cases hlt : k < p.length
  ·obtain ⟨b, off, rfl, hb, hc⟩ := hI.at (by omega)
   have hck := hc k hlt
   clear hc
   have b1 := sm_bd (n := k) (f := nth p) (B := 100000000) fun i _ => h i
   have b2 := h k
   have e : sm (k + 1) (nth p) = sm k (nth p) + nth p k := rfl
   have e := hid e
   have z := Go.IntWalk.i64_in (sm k (nth p) + nth p k) (by omega)
   go_wp2_with fail
   go_round
   case rel => exact ⟨k + 1, by omega, by go_num, by rw [e.out]⟩
   case measure => simp [intOf]; omega
  ·obtain rfl : k = p.length := by omega
   go_wp2_with fail
   go_ret
   exact ⟨rfl, Ext.refl _⟩

theorem gcd_step (a b : Int) : Int.gcd b (a % b) = Int.gcd a b := by
 rw [Int.emod_def, Int.gcd_sub_mul_left_right, Int.gcd_comm]
theorem gcd_end {x num den : Int} (x0 : 0 ≤ x) (h : Int.gcd x 0 = Int.gcd num den) : x = (Int.gcd num den : Int) := by
 rw [Int.gcd_zero_right] at h
 omega
theorem tdiv_num (num den : Int) : num.tdiv (Int.gcd num den : Int) = ratN num den := Int.tdiv_eq_ediv_of_dvd (Int.gcd_dvd_left ..)
theorem tdiv_den (num den : Int) : den.tdiv (Int.gcd num den : Int) = ratD num den := Int.tdiv_eq_ediv_of_dvd (Int.gcd_dvd_right ..)
theorem ratN_bd {a b : Int} (h : 0 < b) {B : Int} (h0 : -B ≤ a) (h1 : a ≤ B) (hB : 0 ≤ B) : -B ≤ ratN a b ∧ ratN a b ≤ B := by
 obtain ⟨e, _, _⟩ := rat_spec a h
 have hg := gcd_pos (a := a) h
 generalize ratN a b = x at *
 generalize (Int.gcd a b : Int) = g at *
 rcases Int.le_total 0 x with hx | hx
 ·have := Int.mul_le_mul_of_nonneg_left (show (1 : Int) ≤ g by omega) hx
  omega
 ·have := Int.mul_le_mul_of_nonpos_left hx (show (1 : Int) ≤ g by omega)
  omega


set_option maxHeartbeats 800000 in
 theorem by_any (num den : Int) (h0 : -1000000000000 ≤ num) (h1' : num ≤ 1000000000000) (d0 : 0 < den) (d1 : den ≤ 1000000000000) (w : World) :
  Calls Try.prog 90 #[.int .i64 num, .int .i64 den] w fun e w' => e = .returned (.agg #[.int .i64 (ratN num den), .int .i64 (ratD num den)]) ∧ Ext w w' := by
  go_enter Try.func90, Try.ntmps90
  go_wp2_with fail
  all_goals
   go_loopw [5, 6] (fun a b wr => ∃ x y : Int, a = .int .i64 x ∧ b = .int .i64 y ∧ 0 ≤ x ∧ 0 ≤ y ∧ x ≤ 1000000000000 ∧ y ≤ 1000000000000 ∧ Hid (Int.gcd x y = Int.gcd num den) ∧ Ext (w.alloc (.cells #[.int .i64 0, .int .i64 0] 30)) wr) (fun _ b _ => (intOf b).toNat)
   case atStart => first | exact ⟨num, den, rfl, rfl, by omega, by omega, by omega, by omega, rfl, Ext.refl _⟩ | exact ⟨-num, den, rfl, rfl, by omega, by omega, by omega, by omega, by show Int.gcd (-num) den = _; exact Int.neg_gcd, Ext.refl _⟩
   case round =>
    obtain ⟨x, y, rfl, rfl, x0, y0, x1, y1, hg, hw⟩ := hrel
    by_cases hy : 0 < y
    ·have hs := hid (gcd_step x y)
     have hr : 0 ≤ x % y ∧ x % y < y := ⟨Int.emod_nonneg _ (by omega), Int.emod_lt_of_pos _ hy⟩
     have hy0 : ¬ y = 0 := by omega
     obtain ⟨r, er⟩ : ∃ r, x % y = r := ⟨_, rfl⟩
     rw [er] at hr hs
     go_wp2_with fail
     go_quiet (fail)
     go_wp2
     go_roundw
     case rel => exact ⟨y, r, rfl, by rw [er], by omega, by omega, by omega, by omega, hs.out.trans hg.out, (by repeat (with_reducible first | assumption | exact Ext.refl _ | refine Ext.drew ?_ | refine Ext.drewN ?_ _ | refine Ext.alloc ?_ _ | refine xS ?_ _ | refine xT ?_ (by assumption)))⟩
     case measure => simp [intOf]; omega
    ·obtain rfl : y = 0 := by omega
     have hx : x = (Int.gcd num den : Int) := gcd_end x0 hg.out
     have h1 := tdiv_num num den
     have h2 := tdiv_den num den
     rw [← hx] at h1 h2
     have h3 : den / x = ratD num den := by rw [hx]; rfl
     have h4 : num / x = ratN num den := by rw [hx]; rfl
     have hx0 : ¬ x = 0 := by have := gcd_pos (a := num) d0; omega
     have c0 := hw.cell (p := ⟨w.heap.size, 0, none⟩) (v := .int .i64 0) (by simp [go_sem])
     have c1 := hw.cell (p := ⟨w.heap.size, 1, none⟩) (v := .int .i64 0) (by simp [go_sem])
     have f0 := hw.frozen (p := ⟨w.heap.size, 0, none⟩) (by simp)
     have f1 := hw.frozen (p := ⟨w.heap.size, 1, none⟩) (by simp)
     simp only [go_sem] at f0 f1
     have b1 := ratN_bd (a := num) (b := den) (B := 1000000000000) d0 h0 h1' (by omega)
     have b2 := (rat_spec num d0).2.2
     have b3 := rat_le (a := num) d0
     obtain ⟨N, eN⟩ : ∃ N, ratN num den = N := ⟨_, rfl⟩
     obtain ⟨D, eD⟩ : ∃ D, ratD num den = D := ⟨_, rfl⟩
     rw [eN] at h1 h4 b1
     rw [eD] at h2 h3 b2 b3
     have eN := hid eN
     have eD := hid eD
     clear hg hx
     have hE := hid hw
     go_wp2_with fail
     go_still_tail 7, (by kernel_rfl)
     change wpList _ _ _ _ _ (World.drew _)
     go_wp2_with fail
     refine bodyPost_ret (v := .agg #[.int .i64 N, .int .i64 D]) ?_ rfl ?_
     ·simp [results, Try.results90, go_sem, *]
     ·exact ⟨by rw [eN.out, eD.out], by have := hE.out; exact (by repeat (with_reducible first | assumption | exact Ext.refl _ | refine Ext.drew ?_ | refine Ext.drewN ?_ _ | refine Ext.alloc ?_ _ | refine xS ?_ _ | refine xT ?_ (by assumption)))⟩
set_option maxHeartbeats 800000 in
 theorem byR_any (num den : Int) (h0 : -1000000000000 ≤ num) (h1' : num ≤ 1000000000000) (d0 : 0 < den) (d1 : den ≤ 1000000000000) (w : World) :
  Calls Try.prog 54 #[.int .i64 num, .int .i64 den] w fun e w' => e = .returned (.agg #[.int .i64 (ratN num den), .int .i64 (ratD num den)]) ∧ Ext w w' := by
  go_enter Try.func54, Try.ntmps54
  go_wp2_with fail
  all_goals
   go_loopw [5, 6] (fun a b wr => ∃ x y : Int, a = .int .i64 x ∧ b = .int .i64 y ∧ 0 ≤ x ∧ 0 ≤ y ∧ x ≤ 1000000000000 ∧ y ≤ 1000000000000 ∧ Hid (Int.gcd x y = Int.gcd num den) ∧ Ext (w.alloc (.cells #[.int .i64 0, .int .i64 0] 30)) wr) (fun _ b _ => (intOf b).toNat)
   case atStart => first | exact ⟨num, den, rfl, rfl, by omega, by omega, by omega, by omega, rfl, Ext.refl _⟩ | exact ⟨-num, den, rfl, rfl, by omega, by omega, by omega, by omega, by show Int.gcd (-num) den = _; exact Int.neg_gcd, Ext.refl _⟩
   case round =>
    obtain ⟨x, y, rfl, rfl, x0, y0, x1, y1, hg, hw⟩ := hrel
    by_cases hy : 0 < y
    ·have hs := hid (gcd_step x y)
     have hr : 0 ≤ x % y ∧ x % y < y := ⟨Int.emod_nonneg _ (by omega), Int.emod_lt_of_pos _ hy⟩
     have hy0 : ¬ y = 0 := by omega
     obtain ⟨r, er⟩ : ∃ r, x % y = r := ⟨_, rfl⟩
     rw [er] at hr hs
     go_wp2_with fail
     go_quiet (fail)
     go_wp2
     go_roundw
     case rel => exact ⟨y, r, rfl, by rw [er], by omega, by omega, by omega, by omega, hs.out.trans hg.out, (by repeat (with_reducible first | assumption | exact Ext.refl _ | refine Ext.drew ?_ | refine Ext.drewN ?_ _ | refine Ext.alloc ?_ _ | refine xS ?_ _ | refine xT ?_ (by assumption)))⟩
     case measure => simp [intOf]; omega
    ·obtain rfl : y = 0 := by omega
     have hx : x = (Int.gcd num den : Int) := gcd_end x0 hg.out
     have h1 := tdiv_num num den
     have h2 := tdiv_den num den
     rw [← hx] at h1 h2
     have h3 : den / x = ratD num den := by rw [hx]; rfl
     have h4 : num / x = ratN num den := by rw [hx]; rfl
     have hx0 : ¬ x = 0 := by have := gcd_pos (a := num) d0; omega
     have c0 := hw.cell (p := ⟨w.heap.size, 0, none⟩) (v := .int .i64 0) (by simp [go_sem])
     have c1 := hw.cell (p := ⟨w.heap.size, 1, none⟩) (v := .int .i64 0) (by simp [go_sem])
     have f0 := hw.frozen (p := ⟨w.heap.size, 0, none⟩) (by simp)
     have f1 := hw.frozen (p := ⟨w.heap.size, 1, none⟩) (by simp)
     simp only [go_sem] at f0 f1
     have b1 := ratN_bd (a := num) (b := den) (B := 1000000000000) d0 h0 h1' (by omega)
     have b2 := (rat_spec num d0).2.2
     have b3 := rat_le (a := num) d0
     obtain ⟨N, eN⟩ : ∃ N, ratN num den = N := ⟨_, rfl⟩
     obtain ⟨D, eD⟩ : ∃ D, ratD num den = D := ⟨_, rfl⟩
     rw [eN] at h1 h4 b1
     rw [eD] at h2 h3 b2 b3
     have eN := hid eN
     have eD := hid eD
     clear hg hx
     have hE := hid hw
     go_wp2_with fail
     go_still_tail 7, (by kernel_rfl)
     change wpList _ _ _ _ _ (World.drew _)
     go_wp2_with fail
     refine bodyPost_ret (v := .agg #[.int .i64 N, .int .i64 D]) ?_ rfl ?_
     ·simp [results, Try.results54, go_sem, *]
     ·exact ⟨by rw [eN.out, eD.out], by have := hE.out; exact (by repeat (with_reducible first | assumption | exact Ext.refl _ | refine Ext.drew ?_ | refine Ext.drewN ?_ _ | refine Ext.alloc ?_ _ | refine xS ?_ _ | refine xT ?_ (by assumption)))⟩

set_option maxHeartbeats 400000 in
theorem sumR_any (p : List Int) (h : ∀ i, 0 ≤ nth p i ∧ nth p i ≤ 100000000) (hl : p.length ≤ 1000) (a : Option Addr) (cap : Nat) (w : World) (hI : Ints w a p) :
 Calls Try.prog 87 #[.slice a p.length cap] w fun e w' => e = .returned (.int .i64 (psum p)) ∧ Ext w w' := by
 go_enter Try.func87, Try.ntmps87
 go_wp2_with fail
 go_loop [3, 4] (fun s i => ∃ k : Nat, k ≤ p.length ∧ i = .int .i64 k ∧ s = .int .i64 (sm k (nth p))) (fun _ i => (p.length - intOf i).toNat)
 case atStart => exact ⟨0, by omega, rfl, rfl⟩
 case round =>
  obtain ⟨k, hk, rfl, rfl⟩ := hrel
  by_cases hlt : k < p.length
  ·obtain ⟨b, off, rfl, hb, hc⟩ := hI.at (by omega)
   have hck := hc k hlt
   clear hc
   have b1 := sm_bd (n := k) (f := nth p) (B := 100000000) fun i _ => h i
   have b2 := h k
   have e : sm (k + 1) (nth p) = sm k (nth p) + nth p k := rfl
   have e := hid e
   have z := Go.IntWalk.i64_in (sm k (nth p) + nth p k) (by omega)
   go_wp2_with fail
   go_round
   case rel => exact ⟨k + 1, by omega, by go_num, by rw [e.out]⟩
   case measure => simp [intOf]; omega
  ·obtain rfl : k = p.length := by omega
   go_wp2_with fail
   go_ret
   exact ⟨rfl, Ext.refl _⟩
theorem sumL_any (p : List Int) (h : ∀ i, 0 ≤ nth p i ∧ nth p i ≤ 100000000) (hl : p.length ≤ 1000) (a : Option Addr) (cap : Nat) (w : World) (hI : Ints w a p) :
 Calls Try.prog 51 #[.slice a p.length cap] w fun e w' => e = .returned (.int .i64 (psum p)) ∧ Ext w w' := by
 go_enter Try.func51, Try.ntmps51
 go_wp2_with fail
 refine (sumR_any p h hl a cap _ hI).mono ?_; rintro e w1 ⟨rfl, hE⟩
 go_wp2_with fail
 go_ret
 exact ⟨rfl, (by repeat (with_reducible first | assumption | exact Ext.refl _ | refine Ext.drew ?_ | refine Ext.drewN ?_ _ | refine Ext.alloc ?_ _ | refine xS ?_ _ | refine xT ?_ (by assumption)))⟩

def lessB (a b c d : Int) : Bool := decide (a * d < c * b)
set_option maxHeartbeats 400000 in
 theorem less_any (a b c d : Int) (h1 : I64 (a * d)) (h2 : I64 (c * b)) (w : World) :
  Calls Try.prog 111 #[.agg #[.int .i64 a, .int .i64 b], .agg #[.int .i64 c, .int .i64 d]] w fun e w' => e = .returned (.bool (lessB a b c d)) ∧ Ext w w' := by
  unfold I64 at h1 h2
  have z1 := Go.IntWalk.i64_in (a * d) (by omega)
  have z2 := Go.IntWalk.i64_in (c * b) (by omega)
  go_enter Try.func111, Try.ntmps111
  go_wp2_with fail
  go_ret
  exact ⟨rfl, (by repeat (with_reducible first | assumption | exact Ext.refl _ | refine Ext.drew ?_ | refine Ext.drewN ?_ _ | refine Ext.alloc ?_ _ | refine xS ?_ _ | refine xT ?_ (by assumption)))⟩
set_option maxHeartbeats 400000 in
 theorem lessR_any (a b c d : Int) (h1 : I64 (a * d)) (h2 : I64 (c * b)) (w : World) :
  Calls Try.prog 44 #[.agg #[.int .i64 a, .int .i64 b], .agg #[.int .i64 c, .int .i64 d]] w fun e w' => e = .returned (.bool (lessB a b c d)) ∧ Ext w w' := by
  unfold I64 at h1 h2
  have z1 := Go.IntWalk.i64_in (a * d) (by omega)
  have z2 := Go.IntWalk.i64_in (c * b) (by omega)
  go_enter Try.func44, Try.ntmps44
  go_wp2_with fail
  go_ret
  exact ⟨rfl, (by repeat (with_reducible first | assumption | exact Ext.refl _ | refine Ext.drew ?_ | refine Ext.drewN ?_ _ | refine Ext.alloc ?_ _ | refine xS ?_ _ | refine xT ?_ (by assumption)))⟩
set_option maxHeartbeats 400000 in
 theorem opposite_any (a b : Int) (h : -9000000000000000000 ≤ a ∧ a ≤ 9000000000000000000) (w : World) :
  Calls Try.prog 66 #[.agg #[.int .i64 a, .int .i64 b]] w fun e w' => e = .returned (.agg #[.int .i64 (-a), .int .i64 b]) ∧ Ext w w' := by
  have z1 := Go.IntWalk.i64_in (-a) (by omega)
  go_enter Try.func66, Try.ntmps66
  go_wp2_with fail
  refine bodyPost_ret (v := .agg #[.int .i64 (-a), .int .i64 b]) ?_ rfl ?_
  ·simp [results, Try.results66, go_sem, *]
  ·exact ⟨rfl, (by repeat (with_reducible first | assumption | exact Ext.refl _ | refine Ext.drew ?_ | refine Ext.drewN ?_ _ | refine Ext.alloc ?_ _ | refine xS ?_ _ | refine xT ?_ (by assumption)))⟩
set_option maxHeartbeats 400000 in
 theorem oppositeR_any (a b : Int) (h : -9000000000000000000 ≤ a ∧ a ≤ 9000000000000000000) (w : World) :
  Calls Try.prog 92 #[.agg #[.int .i64 a, .int .i64 b]] w fun e w' => e = .returned (.agg #[.int .i64 (-a), .int .i64 b]) ∧ Ext w w' := by
  have z1 := Go.IntWalk.i64_in (-a) (by omega)
  go_enter Try.func92, Try.ntmps92
  go_wp2_with fail
  refine bodyPost_ret (v := .agg #[.int .i64 (-a), .int .i64 b]) ?_ rfl ?_
  ·simp [results, Try.results92, go_sem, *]
  ·exact ⟨rfl, (by repeat (with_reducible first | assumption | exact Ext.refl _ | refine Ext.drew ?_ | refine Ext.drewN ?_ _ | refine Ext.alloc ?_ _ | refine xS ?_ _ | refine xT ?_ (by assumption)))⟩
theorem byL_any (a b : Int) (w : World) :
 Calls Try.prog 45 #[.int .i64 a, .int .i64 b] w fun e w' => e = .returned (.agg #[.int .i64 a, .int .i64 b]) ∧ Ext w w' := by
 go_enter Try.func45, Try.ntmps45
 go_wp2_with fail
 refine bodyPost_ret (v := .agg #[.int .i64 a, .int .i64 b]) ?_ rfl ?_
 ·simp [results, Try.results45, go_sem]
 ·exact ⟨rfl, (by repeat (with_reducible first | assumption | exact Ext.refl _ | refine Ext.drew ?_ | refine Ext.drewN ?_ _ | refine Ext.alloc ?_ _ | refine xS ?_ _ | refine xT ?_ (by assumption)))⟩
theorem longs_any (v : Value) (w : World) : Calls Try.prog 56 #[v] w fun e w' => e = .returned v ∧ w = w' := by
 go_enter Try.func56, Try.ntmps56
 go_wp2_with fail
 go_ret
 exact ⟨rfl, rfl⟩
theorem of_any (v : Value) (w : World) : Calls Try.prog 60 #[v] w fun e w' => e = .returned v ∧ w = w' := by
 go_enter Try.func60, Try.ntmps60
 go_wp2_with fail
 go_ret
 exact ⟨rfl, rfl⟩
theorem long_any (p : List Int) (hl : p.length ≤ 9223372036854775807) (a : Option Addr) (cap : Nat) (w : World) : Calls Try.prog 17 #[.slice a p.length cap] w fun e w' => e = .returned (.bool (decide (8 < p.length))) ∧ Ext w w' := by
 go_enter Try.func17, Try.ntmps17
 go_wp2_with fail
 go_ret
 exact ⟨ret_bool (by simp; omega), (by repeat (with_reducible first | assumption | exact Ext.refl _ | refine Ext.drew ?_ | refine Ext.drewN ?_ _ | refine Ext.alloc ?_ _ | refine xS ?_ _ | refine xT ?_ (by assumption)))⟩

end Go.Proofs.Ytommhgcgaclflaa
namespace Go.Proofs.Ytommhgcgaclflaa
set_option linter.unusedVariables false
set_option linter.unusedSimpArgs false
set_option linter.unusedSectionVars false
set_option linter.unnecessarySimpa false
open Go Go.RowKit Game
set_option maxRecDepth 100000

def FitT (t : List (List Int)) : Prop := ∀ i k, I64 (ent t i k)

theorem size_any (r : List Int) (hl : r.length ≤ 1000) (a : Option Addr) (cap : Nat) (w : World) :
 Calls Try.prog 68 #[.slice a r.length cap] w fun e w' => e = .returned (.bool (badSize r)) ∧ Ext w w' := by
 have hn : I64 (r.length : Int) := ⟨by omega, by omega⟩
 have H := hid (show badSize r = !inR 1 4 (r.length : Int) from rfl)
 go_enter Try.func68, Try.ntmps68
 go_wp2_with fail
 refine (within1_any 1 4 _ _ _ (by exact lit1 (by simp)) hn).mono ?_
 rintro e w1 ⟨rfl, hE⟩
 go_wp2_with fail
 go_ret
 exact ⟨ret_bool H.out.symm, (by repeat (with_reducible first | assumption | exact Ext.refl _ | refine Ext.drew ?_ | refine Ext.drewN ?_ _ | refine Ext.alloc ?_ _ | refine xS ?_ _ | refine xT ?_ (by assumption)))⟩
theorem strayT_any (r : List Int) (hl : r.length ≤ 1000) (hq : ∀ i, I64 (nth r i)) (a : Option Addr) (cap : Nat) (w : World) (hI : Ints w a r) :
 Calls Try.prog 71 #[.slice a r.length cap] w fun e w' => e = .returned (.bool (badRow r)) ∧ Ext w w' := by
 have H := hid (show badRow r = !allIn (-100) 100 r from rfl)
 go_enter Try.func71, Try.ntmps71
 go_wp2_with fail
 refine (within_any (-100) 100 a cap r _ hI (by omega) hq).mono ?_
 rintro e w1 ⟨rfl, hE⟩
 go_wp2_with fail
 go_ret
 exact ⟨ret_bool H.out.symm, (by repeat (with_reducible first | assumption | exact Ext.refl _ | refine Ext.drew ?_ | refine Ext.drewN ?_ _ | refine Ext.alloc ?_ _ | refine xS ?_ _ | refine xT ?_ (by assumption)))⟩
theorem other_any (t : List (List Int)) (h0 : 0 < t.length) (r : List Int) (hl : r.length ≤ 1000) (hl2 : t.length ≤ 1000) (hl3 : wid t ≤ 1000) (a : Option Addr) (cap : Nat) (B : Nat) (at_ : Option Addr) (cp : Nat) (w : World) (hB : w.cell? ⟨B, 0, none⟩ = some (.slice at_ t.length cp)) (hT : Tab w at_ t) :
 Calls Try.prog 70 #[.slice a r.length cap, .pointer (some ⟨B, 0, none⟩)] w fun e w' => e = .returned (.bool (badWid (wid t) r)) ∧ Ext w w' := by
 obtain ⟨b, off, rfl, _, hc⟩ := hT.at h0
 obtain ⟨ai, ci, h1, _⟩ := hc 0 h0
 rw [show (row t 0).length = wid t from rfl] at h1
 rw [Nat.add_zero] at h1
 clear hc hT
 by_cases g : r.length = wid t
 ·have H := hid (show badWid (wid t) r = false by unfold badWid; simp [g])
  have G := hid g
  have g2 : ((r.length : Int) != (wid t : Int)) = false := by rw [g]; simp
  clear g
  go_enter Try.func70, Try.ntmps70
  go_wp2_with fail
  go_ret
  exact ⟨ret_bool (by rw [H.out]), (by repeat (with_reducible first | assumption | exact Ext.refl _ | refine Ext.drew ?_ | refine Ext.drewN ?_ _ | refine Ext.alloc ?_ _ | refine xS ?_ _ | refine xT ?_ (by assumption)))⟩
 ·have H := hid (show badWid (wid t) r = true by unfold badWid; simp [g])
  have G := hid g
  clear g
  go_enter Try.func70, Try.ntmps70
  go_wp2_with fail
  go_ret
  exact ⟨ret_bool (by rw [H.out]; have := G.out; simp; omega), (by repeat (with_reducible first | assumption | exact Ext.refl _ | refine Ext.drew ?_ | refine Ext.drewN ?_ _ | refine Ext.alloc ?_ _ | refine xS ?_ _ | refine xT ?_ (by assumption)))⟩

def IdxE (b : Bool) (w : World) (e : Ending) (w' : World) : Prop := ∃ r : Int, e = .returned (.int .i64 r) ∧ decide (0 ≤ r) = b ∧ -1 ≤ r ∧ r ≤ 9223372036854775807 ∧ Ext w w'

set_option maxHeartbeats 1000000 in
 theorem idxSize_any (t : List (List Int)) (a : Option Addr) (cap : Nat) (w : World) (hT : Tab w a t) (hl : t.length ≤ 1000) (hw : ∀ i, (row t i).length ≤ 1000) (hq : True) :
  Calls Try.prog 95 #[.slice a t.length cap, .func (.func 68) #[] #[]] w (IdxE (anyT badSize t) w) := by
  go_enter Try.func95, Try.ntmps95
  go_wp2_with fail
  go_loopw [8] (fun i wr => ∃ k : Nat, k ≤ t.length ∧ i = .int .i64 k ∧ Hid (∀ j, j < k → badSize (row t j) = false) ∧ Ext w wr) (fun i _ => (t.length - intOf i).toNat)
  case atStart => exact ⟨0, by omega, rfl, fun j hj => absurd hj (by omega), Ext.refl _⟩
  case round =>
   obtain ⟨k, hk, rfl, hj, hx⟩ := hrel
   by_cases hlt : k < t.length
   ·obtain ⟨b, off, rfl, hb, hc⟩ := hT.at (by omega)
    obtain ⟨ai, ci, e0, hr⟩ := hc k hlt
    have e0 := hx.cell e0
    replace hr := hr.ext hx
    clear hc
    have hTx := hid (hT.ext hx)
    cases g : badSize (row t k) with
    | false =>
     have H : Hid (∀ j, j < k + 1 → badSize (row t j) = false) := fun j hj' => by
      rcases Nat.lt_or_ge j k with h | h
      ·exact hj.out j h
      ·obtain rfl : j = k := by omega
       exact g
     have G := hid g
     clear g
     go_wp2_with fail
     refine (size_any (row t k) (hw k) ai ci _).mono ?_
     rintro e w1 ⟨rfl, hE⟩
     rw [G.out]
     go_wp2_with fail
     go_roundw
     case rel => exact ⟨k + 1, by omega, by go_num, H, (by repeat (with_reducible first | assumption | exact Ext.refl _ | refine Ext.drew ?_ | refine Ext.drewN ?_ _ | refine Ext.alloc ?_ _ | refine xS ?_ _ | refine xT ?_ (by assumption)))⟩
     case measure => simp [intOf]; omega
    | true =>
     have G := hid g
     clear g
     go_wp2_with fail
     refine (size_any (row t k) (hw k) ai ci _).mono ?_
     rintro e w1 ⟨rfl, hE⟩
     rw [G.out]
     go_wp2_with fail
     go_ret
     refine ⟨k, rfl, ?_, by omega, by omega, (by repeat (with_reducible first | assumption | exact Ext.refl _ | refine Ext.drew ?_ | refine Ext.drewN ?_ _ | refine Ext.alloc ?_ _ | refine xS ?_ _ | refine xT ?_ (by assumption)))⟩
     rw [anyT_yes hlt G.out]; simp
   ·have H := hid (anyT_no (f := badSize) (t := t) fun j hj' => hj.out j (by omega))
    go_wp2_with fail
    go_ret
    exact ⟨-1, rfl, by rw [H.out]; decide, by omega, by omega, (by repeat (with_reducible first | assumption | exact Ext.refl _ | refine Ext.drew ?_ | refine Ext.drewN ?_ _ | refine Ext.alloc ?_ _ | refine xS ?_ _ | refine xT ?_ (by assumption)))⟩
 theorem conSize_any (t : List (List Int)) (a : Option Addr) (cap : Nat) (w : World) (hT : Tab w a t) (hl : t.length ≤ 1000) (hw : ∀ i, (row t i).length ≤ 1000) (hq : True) :
  Calls Try.prog 72 #[.slice a t.length cap, .func (.func 68) #[] #[]] w fun e w' => e = .returned (.bool (anyT badSize t)) ∧ Ext w w' := by
  go_enter Try.func72, Try.ntmps72
  go_wp2_with fail
  refine (idxSize_any t a cap _ hT hl hw hq).mono ?_
  rintro e w1 ⟨r, rfl, hr, r0, r1, hE⟩
  replace hr := hid hr
  go_wp2_with fail
  go_ret
  exact ⟨ret_bool hr.out, (by repeat (with_reducible first | assumption | exact Ext.refl _ | refine Ext.drew ?_ | refine Ext.drewN ?_ _ | refine Ext.alloc ?_ _ | refine xS ?_ _ | refine xT ?_ (by assumption)))⟩
set_option maxHeartbeats 1000000 in
 theorem idxStray_any (t : List (List Int)) (a : Option Addr) (cap : Nat) (w : World) (hT : Tab w a t) (hl : t.length ≤ 1000) (hw : ∀ i, (row t i).length ≤ 1000) (hq : FitT t) :
  Calls Try.prog 95 #[.slice a t.length cap, .func (.func 71) #[] #[]] w (IdxE (anyT badRow t) w) := by
  go_enter Try.func95, Try.ntmps95
  go_wp2_with fail
  go_loopw [8] (fun i wr => ∃ k : Nat, k ≤ t.length ∧ i = .int .i64 k ∧ Hid (∀ j, j < k → badRow (row t j) = false) ∧ Ext w wr) (fun i _ => (t.length - intOf i).toNat)
  case atStart => exact ⟨0, by omega, rfl, fun j hj => absurd hj (by omega), Ext.refl _⟩
  case round =>
   obtain ⟨k, hk, rfl, hj, hx⟩ := hrel
   by_cases hlt : k < t.length
   ·obtain ⟨b, off, rfl, hb, hc⟩ := hT.at (by omega)
    obtain ⟨ai, ci, e0, hr⟩ := hc k hlt
    have e0 := hx.cell e0
    replace hr := hr.ext hx
    clear hc
    have hTx := hid (hT.ext hx)
    cases g : badRow (row t k) with
    | false =>
     have H : Hid (∀ j, j < k + 1 → badRow (row t j) = false) := fun j hj' => by
      rcases Nat.lt_or_ge j k with h | h
      ·exact hj.out j h
      ·obtain rfl : j = k := by omega
       exact g
     have G := hid g
     clear g
     go_wp2_with fail
     refine (strayT_any (row t k) (hw k) (hq k) ai ci _ hr).mono ?_
     rintro e w1 ⟨rfl, hE⟩
     rw [G.out]
     go_wp2_with fail
     go_roundw
     case rel => exact ⟨k + 1, by omega, by go_num, H, (by repeat (with_reducible first | assumption | exact Ext.refl _ | refine Ext.drew ?_ | refine Ext.drewN ?_ _ | refine Ext.alloc ?_ _ | refine xS ?_ _ | refine xT ?_ (by assumption)))⟩
     case measure => simp [intOf]; omega
    | true =>
     have G := hid g
     clear g
     go_wp2_with fail
     refine (strayT_any (row t k) (hw k) (hq k) ai ci _ hr).mono ?_
     rintro e w1 ⟨rfl, hE⟩
     rw [G.out]
     go_wp2_with fail
     go_ret
     refine ⟨k, rfl, ?_, by omega, by omega, (by repeat (with_reducible first | assumption | exact Ext.refl _ | refine Ext.drew ?_ | refine Ext.drewN ?_ _ | refine Ext.alloc ?_ _ | refine xS ?_ _ | refine xT ?_ (by assumption)))⟩
     rw [anyT_yes hlt G.out]; simp
   ·have H := hid (anyT_no (f := badRow) (t := t) fun j hj' => hj.out j (by omega))
    go_wp2_with fail
    go_ret
    exact ⟨-1, rfl, by rw [H.out]; decide, by omega, by omega, (by repeat (with_reducible first | assumption | exact Ext.refl _ | refine Ext.drew ?_ | refine Ext.drewN ?_ _ | refine Ext.alloc ?_ _ | refine xS ?_ _ | refine xT ?_ (by assumption)))⟩
 theorem conStray_any (t : List (List Int)) (a : Option Addr) (cap : Nat) (w : World) (hT : Tab w a t) (hl : t.length ≤ 1000) (hw : ∀ i, (row t i).length ≤ 1000) (hq : FitT t) :
  Calls Try.prog 72 #[.slice a t.length cap, .func (.func 71) #[] #[]] w fun e w' => e = .returned (.bool (anyT badRow t)) ∧ Ext w w' := by
  go_enter Try.func72, Try.ntmps72
  go_wp2_with fail
  refine (idxStray_any t a cap _ hT hl hw hq).mono ?_
  rintro e w1 ⟨r, rfl, hr, r0, r1, hE⟩
  replace hr := hid hr
  go_wp2_with fail
  go_ret
  exact ⟨ret_bool hr.out, (by repeat (with_reducible first | assumption | exact Ext.refl _ | refine Ext.drew ?_ | refine Ext.drewN ?_ _ | refine Ext.alloc ?_ _ | refine xS ?_ _ | refine xT ?_ (by assumption)))⟩
set_option maxHeartbeats 1000000 in
 theorem idxOther_any (t : List (List Int)) (a : Option Addr) (cap : Nat) (w : World) (hT : Tab w a t) (hl : t.length ≤ 1000) (hw : ∀ i, (row t i).length ≤ 1000) (B : Nat) (hB : w.cell? ⟨B, 0, none⟩ = some (.slice a t.length cap)) :
  Calls Try.prog 95 #[.slice a t.length cap, .func (.func 70) #[] #[.pointer (some ⟨B, 0, none⟩)]] w (IdxE (anyT (badWid (wid t)) t) w) := by
  go_enter Try.func95, Try.ntmps95
  go_wp2_with fail
  go_loopw [8] (fun i wr => ∃ k : Nat, k ≤ t.length ∧ i = .int .i64 k ∧ Hid (∀ j, j < k → (badWid (wid t)) (row t j) = false) ∧ Ext w wr) (fun i _ => (t.length - intOf i).toNat)
  case atStart => exact ⟨0, by omega, rfl, fun j hj => absurd hj (by omega), Ext.refl _⟩
  case round =>
   obtain ⟨k, hk, rfl, hj, hx⟩ := hrel
   by_cases hlt : k < t.length
   ·obtain ⟨b, off, rfl, hb, hc⟩ := hT.at (by omega)
    obtain ⟨ai, ci, e0, hr⟩ := hc k hlt
    have e0 := hx.cell e0
    replace hr := hr.ext hx
    clear hc
    have hTx := hid (hT.ext hx)
    cases g : (badWid (wid t)) (row t k) with
    | false =>
     have H : Hid (∀ j, j < k + 1 → (badWid (wid t)) (row t j) = false) := fun j hj' => by
      rcases Nat.lt_or_ge j k with h | h
      ·exact hj.out j h
      ·obtain rfl : j = k := by omega
       exact g
     have G := hid g
     clear g
     go_wp2_with fail
     refine (other_any t (by omega) (row t k) (hw k) hl (hw 0) ai ci B _ cap _ (hx.cell hB) hTx.out).mono ?_
     rintro e w1 ⟨rfl, hE⟩
     rw [G.out]
     go_wp2_with fail
     go_roundw
     case rel => exact ⟨k + 1, by omega, by go_num, H, (by repeat (with_reducible first | assumption | exact Ext.refl _ | refine Ext.drew ?_ | refine Ext.drewN ?_ _ | refine Ext.alloc ?_ _ | refine xS ?_ _ | refine xT ?_ (by assumption)))⟩
     case measure => simp [intOf]; omega
    | true =>
     have G := hid g
     clear g
     go_wp2_with fail
     refine (other_any t (by omega) (row t k) (hw k) hl (hw 0) ai ci B _ cap _ (hx.cell hB) hTx.out).mono ?_
     rintro e w1 ⟨rfl, hE⟩
     rw [G.out]
     go_wp2_with fail
     go_ret
     refine ⟨k, rfl, ?_, by omega, by omega, (by repeat (with_reducible first | assumption | exact Ext.refl _ | refine Ext.drew ?_ | refine Ext.drewN ?_ _ | refine Ext.alloc ?_ _ | refine xS ?_ _ | refine xT ?_ (by assumption)))⟩
     rw [anyT_yes hlt G.out]; simp
   ·have H := hid (anyT_no (f := (badWid (wid t))) (t := t) fun j hj' => hj.out j (by omega))
    go_wp2_with fail
    go_ret
    exact ⟨-1, rfl, by rw [H.out]; decide, by omega, by omega, (by repeat (with_reducible first | assumption | exact Ext.refl _ | refine Ext.drew ?_ | refine Ext.drewN ?_ _ | refine Ext.alloc ?_ _ | refine xS ?_ _ | refine xT ?_ (by assumption)))⟩
 theorem conOther_any (t : List (List Int)) (a : Option Addr) (cap : Nat) (w : World) (hT : Tab w a t) (hl : t.length ≤ 1000) (hw : ∀ i, (row t i).length ≤ 1000) (B : Nat) (hB : w.cell? ⟨B, 0, none⟩ = some (.slice a t.length cap)) :
  Calls Try.prog 72 #[.slice a t.length cap, .func (.func 70) #[] #[.pointer (some ⟨B, 0, none⟩)]] w fun e w' => e = .returned (.bool (anyT (badWid (wid t)) t)) ∧ Ext w w' := by
  go_enter Try.func72, Try.ntmps72
  go_wp2_with fail
  refine (idxOther_any t a cap _ hT hl hw B hB).mono ?_
  rintro e w1 ⟨r, rfl, hr, r0, r1, hE⟩
  replace hr := hid hr
  go_wp2_with fail
  go_ret
  exact ⟨ret_bool hr.out, (by repeat (with_reducible first | assumption | exact Ext.refl _ | refine Ext.drew ?_ | refine Ext.drewN ?_ _ | refine Ext.alloc ?_ _ | refine xS ?_ _ | refine xT ?_ (by assumption)))⟩

theorem mem_range {t : List (List Int)} (hw : ∀ i, (row t i).length ≤ 1000) : wid t ≤ 1000 := hw 0

set_option maxHeartbeats 2000000 in
theorem checkTable_any (t : List (List Int)) (q : FitT t) (a : Option Addr) (cap : Nat) (w : World) (hT : Tab w a t) (hl : t.length ≤ 1000) (hw : ∀ i, (row t i).length ≤ 1000) :
 Calls Try.prog 23 #[(.agg #[.slice a t.length cap])] w fun e w' => e = .returned (.int .i64 (chkT t)) ∧ Ext w w' := by
 have hB := (Ext.refl w).alloc (.cells #[.slice a t.length cap] 24)
 have hn : I64 (t.length : Int) := ⟨by omega, by omega⟩
 have hT' := hid hT
 have hw' := hid hw
 cases g : inR 1 4 t.length with
 | false =>
  have H := hid (chkT_many (t := t) g)
  have g0 : (!inR 1 4 (t.length : Int)) = true := by rw [g]; rfl
  clear g
  go_enter Try.func23, Try.ntmps23
  go_wp2_with fail
  refine (within1_any 1 4 _ _ _ (by exact lit1 (by simp)) hn).mono ?_
  rintro e w1 ⟨rfl, hE⟩
  go_wp2_with fail
  go_ret
  exact ⟨ret_int H.out.symm, (by repeat (with_reducible first | assumption | exact Ext.refl _ | refine Ext.drew ?_ | refine Ext.drewN ?_ _ | refine Ext.alloc ?_ _ | refine xS ?_ _ | refine xT ?_ (by assumption)))⟩
 | true =>
  have g0 : (!inR 1 4 (t.length : Int)) = false := by rw [g]; rfl
  have g1 := inR_iff.1 g
  have hdef := hid (show chkT t = if (!inR 1 4 (t.length : Int) || anyT badSize t) = true then 6 else if anyT (badWid (wid t)) t = true then 15 else if anyT badRow t = true then 3 else 0 from rfl)
  cases g2 : anyT badSize t with
  | true =>
   have H : Hid (chkT t = 6) := hid (by rw [hdef.out, g2]; simp)
   have G2 := hid g2
   clear g g2 hdef
   go_enter Try.func23, Try.ntmps23
   go_wp2_with fail
   refine (within1_any 1 4 _ _ _ (by exact lit1 (by simp)) hn).mono ?_
   rintro e w1 ⟨rfl, hE⟩
   have c0 := hE.cell (p := ⟨w.heap.size, 0, none⟩) (v := .slice a t.length cap) (by simp [go_sem])
   go_wp2_with fail
   refine (conSize_any t a cap _ (hT'.out.ext (by repeat (with_reducible first | assumption | exact Ext.refl _ | refine Ext.drew ?_ | refine Ext.drewN ?_ _ | refine Ext.alloc ?_ _ | refine xS ?_ _ | refine xT ?_ (by assumption)))) hl hw'.out trivial).mono ?_
   rintro e w2 ⟨rfl, hE2⟩
   rw [G2.out]
   go_wp2_with fail
   go_ret
   exact ⟨ret_int H.out.symm, (by repeat (with_reducible first | assumption | exact Ext.refl _ | refine Ext.drew ?_ | refine Ext.drewN ?_ _ | refine Ext.alloc ?_ _ | refine xS ?_ _ | refine xT ?_ (by assumption)))⟩
  | false =>
   have G2 := hid g2
   cases g3 : anyT (badWid (wid t)) t with
   | true =>
    have H : Hid (chkT t = 15) := hid (by rw [hdef.out, g2, g3, g]; simp)
    have G3 := hid g3
    clear g g2 g3 hdef
    go_enter Try.func23, Try.ntmps23
    go_wp2_with fail
    refine (within1_any 1 4 _ _ _ (by exact lit1 (by simp)) hn).mono ?_
    rintro e w1 ⟨rfl, hE⟩
    have c0 := hE.cell (p := ⟨w.heap.size, 0, none⟩) (v := .slice a t.length cap) (by simp [go_sem])
    go_wp2_with fail
    refine (conSize_any t a cap _ (hT'.out.ext (by repeat (with_reducible first | assumption | exact Ext.refl _ | refine Ext.drew ?_ | refine Ext.drewN ?_ _ | refine Ext.alloc ?_ _ | refine xS ?_ _ | refine xT ?_ (by assumption)))) hl hw'.out trivial).mono ?_
    rintro e w2 ⟨rfl, hE2⟩
    rw [G2.out]
    have c0 := hE2.cell c0
    go_wp2_with fail
    refine (conOther_any t a cap _ (hT'.out.ext (by repeat (with_reducible first | assumption | exact Ext.refl _ | refine Ext.drew ?_ | refine Ext.drewN ?_ _ | refine Ext.alloc ?_ _ | refine xS ?_ _ | refine xT ?_ (by assumption)))) hl hw'.out _ c0).mono ?_
    rintro e w3 ⟨rfl, hE3⟩
    rw [G3.out]
    go_wp2_with fail
    go_ret
    exact ⟨ret_int H.out.symm, (by repeat (with_reducible first | assumption | exact Ext.refl _ | refine Ext.drew ?_ | refine Ext.drewN ?_ _ | refine Ext.alloc ?_ _ | refine xS ?_ _ | refine xT ?_ (by assumption)))⟩
   | false =>
    have G3 := hid g3
    cases g4 : anyT badRow t with
    | true =>
     have H : Hid (chkT t = 3) := hid (by rw [hdef.out, g2, g3, g4, g]; simp)
     have G4 := hid g4
     clear g g2 g3 g4 hdef
     go_enter Try.func23, Try.ntmps23
     go_wp2_with fail
     refine (within1_any 1 4 _ _ _ (by exact lit1 (by simp)) hn).mono ?_
     rintro e w1 ⟨rfl, hE⟩
     have c0 := hE.cell (p := ⟨w.heap.size, 0, none⟩) (v := .slice a t.length cap) (by simp [go_sem])
     go_wp2_with fail
     refine (conSize_any t a cap _ (hT'.out.ext (by repeat (with_reducible first | assumption | exact Ext.refl _ | refine Ext.drew ?_ | refine Ext.drewN ?_ _ | refine Ext.alloc ?_ _ | refine xS ?_ _ | refine xT ?_ (by assumption)))) hl hw'.out trivial).mono ?_
     rintro e w2 ⟨rfl, hE2⟩
     rw [G2.out]
     have c0 := hE2.cell c0
     go_wp2_with fail
     refine (conOther_any t a cap _ (hT'.out.ext (by repeat (with_reducible first | assumption | exact Ext.refl _ | refine Ext.drew ?_ | refine Ext.drewN ?_ _ | refine Ext.alloc ?_ _ | refine xS ?_ _ | refine xT ?_ (by assumption)))) hl hw'.out _ c0).mono ?_
     rintro e w3 ⟨rfl, hE3⟩
     rw [G3.out]
     have c0 := hE3.cell c0
     go_wp2_with fail
     refine (conStray_any t a cap _ (hT'.out.ext (by repeat (with_reducible first | assumption | exact Ext.refl _ | refine Ext.drew ?_ | refine Ext.drewN ?_ _ | refine Ext.alloc ?_ _ | refine xS ?_ _ | refine xT ?_ (by assumption)))) hl hw'.out q).mono ?_
     rintro e w4 ⟨rfl, hE4⟩
     rw [G4.out]
     go_wp2_with fail
     go_ret
     exact ⟨ret_int H.out.symm, (by repeat (with_reducible first | assumption | exact Ext.refl _ | refine Ext.drew ?_ | refine Ext.drewN ?_ _ | refine Ext.alloc ?_ _ | refine xS ?_ _ | refine xT ?_ (by assumption)))⟩
    | false =>
     have H : Hid (chkT t = 0) := hid (by rw [hdef.out, g2, g3, g4, g]; simp)
     have G4 := hid g4
     clear g g2 g3 g4 hdef
     go_enter Try.func23, Try.ntmps23
     go_wp2_with fail
     refine (within1_any 1 4 _ _ _ (by exact lit1 (by simp)) hn).mono ?_
     rintro e w1 ⟨rfl, hE⟩
     have c0 := hE.cell (p := ⟨w.heap.size, 0, none⟩) (v := .slice a t.length cap) (by simp [go_sem])
     go_wp2_with fail
     refine (conSize_any t a cap _ (hT'.out.ext (by repeat (with_reducible first | assumption | exact Ext.refl _ | refine Ext.drew ?_ | refine Ext.drewN ?_ _ | refine Ext.alloc ?_ _ | refine xS ?_ _ | refine xT ?_ (by assumption)))) hl hw'.out trivial).mono ?_
     rintro e w2 ⟨rfl, hE2⟩
     rw [G2.out]
     have c0 := hE2.cell c0
     go_wp2_with fail
     refine (conOther_any t a cap _ (hT'.out.ext (by repeat (with_reducible first | assumption | exact Ext.refl _ | refine Ext.drew ?_ | refine Ext.drewN ?_ _ | refine Ext.alloc ?_ _ | refine xS ?_ _ | refine xT ?_ (by assumption)))) hl hw'.out _ c0).mono ?_
     rintro e w3 ⟨rfl, hE3⟩
     rw [G3.out]
     have c0 := hE3.cell c0
     go_wp2_with fail
     refine (conStray_any t a cap _ (hT'.out.ext (by repeat (with_reducible first | assumption | exact Ext.refl _ | refine Ext.drew ?_ | refine Ext.drewN ?_ _ | refine Ext.alloc ?_ _ | refine xS ?_ _ | refine xT ?_ (by assumption)))) hl hw'.out q).mono ?_
     rintro e w4 ⟨rfl, hE4⟩
     rw [G4.out]
     go_wp2_with fail
     go_ret
     exact ⟨ret_int H.out.symm, (by repeat (with_reducible first | assumption | exact Ext.refl _ | refine Ext.drew ?_ | refine Ext.drewN ?_ _ | refine Ext.alloc ?_ _ | refine xS ?_ _ | refine xT ?_ (by assumption)))⟩

end Go.Proofs.Ytommhgcgaclflaa
