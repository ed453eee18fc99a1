/- Texts of one proof, laid together: Aa, LaS. -/
import Derived.Test.YtpnfhcnnodolbaaZY10
import Derived.Test.YtpnfhcnnodolbaaZY8
import Derived.Test.YtpnfhcnnodolbaaProg
import Derived.OwnWalk
import Derived.IntWalk
import Derived.Deep.RegionHeld3
import Derived.Deep.QuietTactic
import Derived.BigQuiet
import Derived.StillTailTactics
set_option linter.unusedVariables false
set_option linter.unusedSimpArgs false
set_option linter.unusedSectionVars false
set_option linter.unnecessarySimpa false
set_option maxRecDepth 100000
namespace Go.Proofs.Ytpnfhcnnodolbaa
open Go Go.RowKit Game
theorem withinF_any (n lo hi : Int) (p q : Addr) (w : World) (h1 : I64 n) (c1 : w.cell? p = some (.int .i64 lo)) (c2 : w.cell? q = some (.int .i64 hi)) :
 Calls Try.prog 88 #[.int .i64 n, .pointer (some p), .pointer (some q)] w fun e w' => e = .returned (.bool (!inR lo hi n)) ∧ w = w' := by
 by_cases g1 : n < lo
 ·have H := hid (show inR lo hi n = false by simp [inR]; omega)
  go_enter Try.func88, Try.ntmps88
  go_wp2
  go_ret
  exact ⟨ret_bool (by rw [H.out]; rfl), rfl⟩
 by_cases g2 : hi < n
 ·have H := hid (show inR lo hi n = false by simp [inR]; omega)
  go_enter Try.func88, Try.ntmps88
  go_wp2
  go_ret
  exact ⟨ret_bool (by rw [H.out]; rfl), rfl⟩
 ·have H := hid (show inR lo hi n = true by simp [inR]; omega)
  go_enter Try.func88, Try.ntmps88
  go_wp2
  go_ret
  exact ⟨ret_bool (by rw [H.out]; rfl), rfl⟩
def IdxP (b : Bool) (w : World) (e : Ending) (w' : World) : Prop := ∃ r : Int, e = .returned (.int .i64 r) ∧ decide (0 ≤ r) = b ∧ -1 ≤ r ∧ r ≤ 9223372036854775807 ∧ w = w'
set_option maxHeartbeats 400000 in
theorem indexF_any (lo hi : Int) (p q : Addr) (a : Option Addr) (cap : Nat) (l : List Int) (w : World) (hI : Ints w a l) (hl : l.length ≤ 1099511627776) (hq : ∀ i, I64 (nth l i))
 (c1 : w.cell? p = some (.int .i64 lo)) (c2 : w.cell? q = some (.int .i64 hi)) :
 Calls Try.prog 106 #[.slice a l.length cap, .func (.func 88) #[] #[.pointer (some p), .pointer (some q)]] w (IdxP (!allIn lo hi l) w) := by
 go_enter Try.func106, Try.ntmps106
 go_wp2_with fail
 go_loop [8] (fun i => ∃ k : Nat, k ≤ l.length ∧ i = .int .i64 k ∧ Hid (∀ j, j < k → inR lo hi (nth l j) = true)) (fun i => (l.length - intOf i).toNat)
 case atStart => exact ⟨0, by omega, rfl, fun j hj => absurd hj (by omega)⟩
 case round =>
  obtain ⟨k, hk, rfl, hj⟩ := hrel
  by_cases hlt : k < l.length
  ·obtain ⟨b, off, rfl, hb, hc⟩ := hI.at (by omega)
   have hck := hc k hlt
   clear hc
   cases g : inR lo hi (nth l k) with
   | false =>
    have g0 : (!inR lo hi (nth l k)) = true := by rw [g]; rfl
    have G := hid g
    clear g
    go_wp2_with fail
    refine (withinF_any _ lo hi p q _ (hq k) c1 c2).mono ?_
    rintro e w1 ⟨rfl, rfl⟩
    go_wp2_with fail
    go_ret
    refine ⟨k, rfl, ?_, by omega, by omega, rfl⟩
    rw [allIn_no hlt G.out]; simp
   | true =>
    have g0 : (!inR lo hi (nth l k)) = false := by rw [g]; rfl
    have G := hid g
    clear g
    go_wp2_with fail
    refine (withinF_any _ lo hi p q _ (hq k) c1 c2).mono ?_
    rintro e w1 ⟨rfl, rfl⟩
    go_wp2_with fail
    go_round
    case rel =>
     refine ⟨k + 1, by omega, by go_num, fun j hj' => ?_⟩
     rcases Nat.lt_or_ge j k with h | h
     ·exact hj.out j h
     ·obtain rfl : j = k := by omega
      exact G.out
    case measure => simp [intOf]; omega
  ·go_wp2_with fail
   go_ret
   refine ⟨-1, rfl, ?_, by omega, by omega, rfl⟩
   rw [allIn_iff.2 fun i hi => hj.out i (by omega)]
   decide
theorem containsF_any (lo hi : Int) (p q : Addr) (a : Option Addr) (cap : Nat) (l : List Int) (w : World) (hI : Ints w a l) (hl : l.length ≤ 1099511627776) (hq : ∀ i, I64 (nth l i))
 (c1 : w.cell? p = some (.int .i64 lo)) (c2 : w.cell? q = some (.int .i64 hi)) :
 Calls Try.prog 87 #[.slice a l.length cap, .func (.func 88) #[] #[.pointer (some p), .pointer (some q)]] w fun e w' => e = .returned (.bool (!allIn lo hi l)) ∧ w = w' := by
 go_enter Try.func87, Try.ntmps87
 go_wp2_with fail
 refine (indexF_any lo hi p q a cap l _ hI hl hq c1 c2).mono ?_
 rintro e w1 ⟨r, rfl, hr, r0, r1, rfl⟩
 replace hr := hid hr
 go_wp2_with fail
 go_ret
 exact ⟨ret_bool hr.out, rfl⟩
theorem within_any (lo hi : Int) (a : Option Addr) (cap : Nat) (l : List Int) (w : World) (hI : Ints w a l) (hl : l.length ≤ 1099511627776) (hq : ∀ i, I64 (nth l i)) :
 Calls Try.prog 62 #[.int .i64 lo, .int .i64 hi, .slice a l.length cap] w fun e w' => e = .returned (.bool (allIn lo hi l)) ∧ Ext w w' := by
 go_enter Try.func62, Try.ntmps62
 go_wp2_with fail
 refine (containsF_any lo hi _ _ a cap l _ (Ints.ext hI exE) hl hq (by simp [go_sem]) (by simp [go_sem])).mono ?_
 rintro e w1 ⟨rfl, rfl⟩
 go_wp2_with fail
 go_ret
 exact ⟨ret_bool (by simp), exE⟩
theorem lit1 {w : World} {x : Int} {t : TypeId} {n : Nat} (h : n = w.heap.size) : Ints (w.alloc (.cells #[.int .i64 x] t)) (some ⟨n, 0, none⟩) [x] := by
 subst h
 intro i hi
 refine ⟨_, _, rfl, ?_⟩
 obtain rfl : i = 0 := by simp at hi; omega
 simp [nth]
theorem lit2 {w : World} {x y : Int} {t : TypeId} {n : Nat} (h : n = w.heap.size) : Ints (w.alloc (.cells #[.int .i64 x, .int .i64 y] t)) (some ⟨n, 0, none⟩) [x, y] := by
 subst h
 intro i hi
 refine ⟨_, _, rfl, ?_⟩
 have : i = 0 ∨ i = 1 := by simp at hi; omega
 rcases this with rfl | rfl <;> simp [nth]
theorem i64_one {x : Int} (h : I64 x) (i : Nat) : I64 (nth [x] i) := by
 match i with
 | 0 => simpa [nth] using h
 | i + 1 => simp [nth, I64]
theorem i64_two {x y : Int} (h : I64 x) (h' : I64 y) (i : Nat) : I64 (nth [x, y] i) := by
 match i with
 | 0 => simpa [nth] using h
 | 1 => simpa [nth] using h'
 | i + 2 => simp [nth, I64]
theorem within1_any (lo hi x : Int) (b : Nat) (w : World) (hI : Ints w (some ⟨b, 0, none⟩) [x]) (hx : I64 x) :
 Calls Try.prog 62 #[.int .i64 lo, .int .i64 hi, .slice (some ⟨b, 0, none⟩) 1 1] w fun e w' => e = .returned (.bool (inR lo hi x)) ∧ Ext w w' := by
 have := within_any lo hi _ 1 [x] w hI (by simp) (i64_one hx)
 rwa [allIn_one] at this
theorem sm_bd {n : Nat} {f : Nat → Int} {B : Int} (h : ∀ i, i < n → 0 ≤ f i ∧ f i ≤ B) : 0 ≤ sm n f ∧ sm n f ≤ B * n := by
 induction n with
 | zero => simp [sm]
 | succ n ih =>
  have := ih fun i hi => h i (by omega)
  have := h n (by omega)
  rw [show B * ((n + 1 : Nat) : Int) = B * n + B by rw [Int.natCast_add, Int.mul_add]; simp]
  simp only [sm]; omega
set_option maxHeartbeats 400000 in
theorem sum_any (p : List Int) (h : ∀ i, 0 ≤ nth p i ∧ nth p i ≤ 100000000) (hl : p.length ≤ 1000) (a : Option Addr) (cap : Nat) (w : World) (hI : Ints w a p) :
 Calls Try.prog 81 #[.slice a p.length cap] w fun e w' => e = .returned (.int .i64 (psum p)) ∧ Ext w w' := by
 go_enter Try.func81, Try.ntmps81
 go_wp2_with fail
 go_loop [3, 8] (fun s i => ∃ k : Nat, k ≤ p.length ∧ i = .int .i64 k ∧ s = .int .i64 (sm k (nth p))) (fun _ i => (p.length - intOf i).toNat)
 case atStart => exact ⟨0, by omega, rfl, rfl⟩
 case round =>
  obtain ⟨k, hk, rfl, rfl⟩ := hrel
  by_cases hlt : k < p.length
  ·obtain ⟨b, off, rfl, hb, hc⟩ := hI.at (by omega)
   have hck := hc k hlt
   clear hc
   have b1 := sm_bd (n := k) (f := nth p) (B := 100000000) fun i _ => h i
   have b2 := h k
   have e : sm (k + 1) (nth p) = sm k (nth p) + nth p k := rfl
   have e := hid e
   have z := Go.IntWalk.i64_in (sm k (nth p) + nth p k) (by omega)
   go_wp2_with fail
   go_round
   case rel => exact ⟨k + 1, by omega, by go_num, by rw [e.out]⟩
   case measure => simp [intOf]; omega
  ·obtain rfl : k = p.length := by omega
   go_wp2_with fail
   go_ret
   exact ⟨rfl, Ext.refl _⟩
theorem gcd_step (a b : Int) : Int.gcd b (a % b) = Int.gcd a b := by
 rw [Int.emod_def, Int.gcd_sub_mul_left_right, Int.gcd_comm]
theorem gcd_end {x num den : Int} (x0 : 0 ≤ x) (h : Int.gcd x 0 = Int.gcd num den) : x = (Int.gcd num den : Int) := by
 rw [Int.gcd_zero_right] at h
 omega
theorem tdiv_num (num den : Int) : num.tdiv (Int.gcd num den : Int) = ratN num den := Int.tdiv_eq_ediv_of_dvd (Int.gcd_dvd_left ..)
theorem tdiv_den (num den : Int) : den.tdiv (Int.gcd num den : Int) = ratD num den := Int.tdiv_eq_ediv_of_dvd (Int.gcd_dvd_right ..)
theorem ratN_bd {a b : Int} (h : 0 < b) {B : Int} (h0 : -B ≤ a) (h1 : a ≤ B) (hB : 0 ≤ B) : -B ≤ ratN a b ∧ ratN a b ≤ B := by
 obtain ⟨e, _, _⟩ := rat_spec a h
 have hg := gcd_pos (a := a) h
 generalize ratN a b = x at *
 generalize (Int.gcd a b : Int) = g at *
 rcases Int.le_total 0 x with hx | hx
 ·have := Int.mul_le_mul_of_nonneg_left (show (1 : Int) ≤ g by omega) hx
  omega
 ·have := Int.mul_le_mul_of_nonpos_left hx (show (1 : Int) ≤ g by omega)
  omega
set_option maxHeartbeats 800000 in
theorem by_any (num den : Int) (h0 : -1000000000000000 ≤ num) (h1' : num ≤ 1000000000000000) (d0 : 0 < den) (d1 : den ≤ 1000000000000000) (w : World) :
  Calls Try.prog 60 #[.int .i64 num, .int .i64 den] w fun e w' => e = .returned (.agg #[.int .i64 (ratN num den), .int .i64 (ratD num den)]) ∧ Ext w w' := by
  go_enter Try.func60, Try.ntmps60
  go_wp2_with fail
  all_goals
   go_loopw [5, 6] (fun a b wr => ∃ x y : Int, a = .int .i64 x ∧ b = .int .i64 y ∧ 0 ≤ x ∧ 0 ≤ y ∧ x ≤ 1000000000000000 ∧ y ≤ 1000000000000000 ∧ Hid (Int.gcd x y = Int.gcd num den) ∧ Ext (w.alloc (.cells #[.int .i64 0, .int .i64 0] 29)) wr) (fun _ b _ => (intOf b).toNat)
   case atStart => first | exact ⟨num, den, rfl, rfl, by omega, by omega, by omega, by omega, rfl, Ext.refl _⟩ | exact ⟨-num, den, rfl, rfl, by omega, by omega, by omega, by omega, by show Int.gcd (-num) den = _; exact Int.neg_gcd, Ext.refl _⟩
   case round =>
    obtain ⟨x, y, rfl, rfl, x0, y0, x1, y1, hg, hw⟩ := hrel
    by_cases hy : 0 < y
    ·have hs := hid (gcd_step x y)
     have hr : 0 ≤ x % y ∧ x % y < y := ⟨Int.emod_nonneg _ (by omega), Int.emod_lt_of_pos _ hy⟩
     have hy0 : ¬ y = 0 := by omega
     obtain ⟨r, er⟩ : ∃ r, x % y = r := ⟨_, rfl⟩
     rw [er] at hr hs
     go_wp2_with fail
     go_quiet (fail)
     go_wp2
     go_roundw
     case rel => exact ⟨y, r, rfl, by rw [er], by omega, by omega, by omega, by omega, hs.out.trans hg.out, exE⟩
     case measure => simp [intOf]; omega
    ·obtain rfl : y = 0 := by omega
     have hx : x = (Int.gcd num den : Int) := gcd_end x0 hg.out
     have h1 := tdiv_num num den
     have h2 := tdiv_den num den
     rw [← hx] at h1 h2
     have h3 : den / x = ratD num den := by rw [hx]; rfl
     have h4 : num / x = ratN num den := by rw [hx]; rfl
     have hx0 : ¬ x = 0 := by have := gcd_pos (a := num) d0; omega
     have c0 := hw.cell (p := ⟨w.heap.size, 0, none⟩) (v := .int .i64 0) (by simp [go_sem])
     have c1 := hw.cell (p := ⟨w.heap.size, 1, none⟩) (v := .int .i64 0) (by simp [go_sem])
     have f0 := hw.frozen (p := ⟨w.heap.size, 0, none⟩) (by simp)
     have f1 := hw.frozen (p := ⟨w.heap.size, 1, none⟩) (by simp)
     simp only [go_sem] at f0 f1
     have b1 := ratN_bd (a := num) (b := den) (B := 1000000000000000) d0 h0 h1' (by omega)
     have b2 := (rat_spec num d0).2.2
     have b3 := rat_le (a := num) d0
     obtain ⟨N, eN⟩ : ∃ N, ratN num den = N := ⟨_, rfl⟩
     obtain ⟨D, eD⟩ : ∃ D, ratD num den = D := ⟨_, rfl⟩
     rw [eN] at h1 h4 b1
     rw [eD] at h2 h3 b2 b3
     have eN := hid eN
     have eD := hid eD
     clear hg hx
     have hE := hid hw
     go_wp2_with fail
     go_still_tail 7, (by kernel_rfl)
     change wpList _ _ _ _ _ (World.drew _)
     go_wp2_with fail
     refine bodyPost_ret (v := .agg #[.int .i64 N, .int .i64 D]) ?_ rfl ?_
     ·simp [results, Try.results60, go_sem, *]
     ·exact ⟨by rw [eN.out, eD.out], by have := hE.out; exact exE⟩
set_option maxHeartbeats 800000 in
theorem common_any (num den : Int) (h0 : 0 ≤ num) (h1 : num ≤ 1000000000000000) (d0 : 0 ≤ den) (d1 : den ≤ 1000000000000000) (w : World) :
 Calls Try.prog 85 #[.int .i64 num, .int .i64 den] w fun e w' => e = .returned (.int .i64 (Int.gcd num den : Int)) ∧ Ext w w' := by
 go_enter Try.func85, Try.ntmps85
 go_wp2_with fail
 go_loopw [0, 1] (fun a b wr => ∃ x y : Int, a = .int .i64 x ∧ b = .int .i64 y ∧ 0 ≤ x ∧ 0 ≤ y ∧ x ≤ 1000000000000000 ∧ y ≤ 1000000000000000 ∧ Hid (Int.gcd x y = Int.gcd num den) ∧ Ext w wr) (fun _ b _ => (intOf b).toNat)
 case atStart => exact ⟨num, den, rfl, rfl, by omega, by omega, by omega, by omega, hid rfl, Ext.refl _⟩
 case round =>
  obtain ⟨x, y, rfl, rfl, x0, y0, x1, y1, hg, hw⟩ := hrel
  by_cases hy : 0 < y
  ·have hs := hid (gcd_step x y)
   have hr : 0 ≤ x % y ∧ x % y < y := ⟨Int.emod_nonneg _ (by omega), Int.emod_lt_of_pos _ hy⟩
   have hy0 : ¬ y = 0 := by omega
   have hy1 : (y == 0) = false := by simp; omega
   obtain ⟨r, er⟩ : ∃ r, x % y = r := ⟨_, rfl⟩
   rw [er] at hr hs
   go_wp2_with fail
   go_quiet (fail)
   go_wp2
   go_roundw
   case rel => exact ⟨y, r, rfl, by rw [er], by omega, by omega, by omega, by omega, hid (hs.out.trans hg.out), exE⟩
   case measure => simp [intOf]; omega
  ·obtain rfl : y = 0 := by omega
   have hx : x = (Int.gcd num den : Int) := gcd_end x0 hg.out
   replace hx := hid hx
   have hE := hid hw
   clear hg
   go_wp2_with fail
   go_ret
   exact ⟨congrArg (fun z => Ending.returned (.int .i64 z)) hx.out, by have := hE.out; exact exE⟩
set_option maxHeartbeats 400000 in
theorem sumR_any (p : List Int) (h : ∀ i, 0 ≤ nth p i ∧ nth p i ≤ 100000000) (hl : p.length ≤ 1000) (a : Option Addr) (cap : Nat) (w : World) (hI : Ints w a p) :
 Calls Try.prog 49 #[.slice a p.length cap] w fun e w' => e = .returned (.int .i64 (psum p)) ∧ Ext w w' := by
 go_enter Try.func49, Try.ntmps49
 go_wp2_with fail
 go_loop [3, 4] (fun s i => ∃ k : Nat, k ≤ p.length ∧ i = .int .i64 k ∧ s = .int .i64 (sm k (nth p))) (fun _ i => (p.length - intOf i).toNat)
 case atStart => exact ⟨0, by omega, rfl, rfl⟩
 case round =>
  obtain ⟨k, hk, rfl, rfl⟩ := hrel
  by_cases hlt : k < p.length
  ·obtain ⟨b, off, rfl, hb, hc⟩ := hI.at (by omega)
   have hck := hc k hlt
   clear hc
   have b1 := sm_bd (n := k) (f := nth p) (B := 100000000) fun i _ => h i
   have b2 := h k
   have e : sm (k + 1) (nth p) = sm k (nth p) + nth p k := rfl
   have e := hid e
   have z := Go.IntWalk.i64_in (sm k (nth p) + nth p k) (by omega)
   go_wp2_with fail
   go_round
   case rel => exact ⟨k + 1, by omega, by go_num, by rw [e.out]⟩
   case measure => simp [intOf]; omega
  ·obtain rfl : k = p.length := by omega
   go_wp2_with fail
   go_ret
   exact ⟨rfl, Ext.refl _⟩
def lessB (a b c d : Int) : Bool := decide (a * d < c * b)
set_option maxHeartbeats 400000 in
theorem less_any (a b c d : Int) (h1 : I64 (a * d)) (h2 : I64 (c * b)) (w : World) :
  Calls Try.prog 83 #[.agg #[.int .i64 a, .int .i64 b], .agg #[.int .i64 c, .int .i64 d]] w fun e w' => e = .returned (.bool (lessB a b c d)) ∧ Ext w w' := by
  unfold I64 at h1 h2
  have z1 := Go.IntWalk.i64_in (a * d) (by omega)
  have z2 := Go.IntWalk.i64_in (c * b) (by omega)
  go_enter Try.func83, Try.ntmps83
  go_wp2_with fail
  go_ret
  exact ⟨rfl, exE⟩
set_option maxHeartbeats 400000 in
theorem lessR_any (a b c d : Int) (h1 : I64 (a * d)) (h2 : I64 (c * b)) (w : World) :
  Calls Try.prog 46 #[.agg #[.int .i64 a, .int .i64 b], .agg #[.int .i64 c, .int .i64 d]] w fun e w' => e = .returned (.bool (lessB a b c d)) ∧ Ext w w' := by
  unfold I64 at h1 h2
  have z1 := Go.IntWalk.i64_in (a * d) (by omega)
  have z2 := Go.IntWalk.i64_in (c * b) (by omega)
  go_enter Try.func46, Try.ntmps46
  go_wp2_with fail
  go_ret
  exact ⟨rfl, exE⟩
theorem byL_any (a b : Int) (w : World) :
 Calls Try.prog 55 #[.int .i64 a, .int .i64 b] w fun e w' => e = .returned (.agg #[.int .i64 a, .int .i64 b]) ∧ Ext w w' := by
 go_enter Try.func55, Try.ntmps55
 go_wp2_with fail
 refine bodyPost_ret (v := .agg #[.int .i64 a, .int .i64 b]) ?_ rfl ?_
 ·simp [results, Try.results55, go_sem]
 ·exact ⟨rfl, exE⟩
theorem longs_any (v : Value) (w : World) : Calls Try.prog 53 #[v] w fun e w' => e = .returned v ∧ w = w' := by
 go_enter Try.func53, Try.ntmps53
 go_wp2_with fail
 go_ret
 exact ⟨rfl, rfl⟩
structure OkS (n d : Int) : Prop where
 n0 : 0 ≤ n
 n1 : n ≤ 1000 * d
 d0 : 1 ≤ d
 d1 : d ≤ 6000000
 g : Int.gcd n d = 1
set_option maxHeartbeats 800000 in
theorem smallL_any (n d : Int) (h : OkS n d) (w : World) : Calls Try.prog 45 #[(.agg #[.int .i64 (n), .int .i64 (d)])] w fun e w' => e = .returned (.bool true) ∧ Ext w w' := by
 obtain ⟨h0, h1, h2, h3, hg⟩ := h
 have a1 : ¬ d < 1 := by omega
 have a2 : ¬ 6000000 < d := by omega
 have a3 : ¬ n < 0 := by omega
 have a4 : ¬ 1000 * d < n := by omega
 have a5 := Go.IntWalk.i64_in (1000 * d) (by omega)
 have hc := hid (fun W => common_any n d h0 (by omega) (by omega) (by omega) W)
 rw [hg] at hc
 replace hg := hid hg
 replace h1 := hid h1
 go_enter Try.func45, Try.ntmps45
 go_wp2_with fail
 refine (hc.out _).mono ?_; rintro e w1 ⟨rfl, hE⟩
 have x1 : Ext w w1 := exE
 go_wp2_with fail
 go_ret
 exact ⟨rfl, x1⟩
end Go.Proofs.Ytpnfhcnnodolbaa
