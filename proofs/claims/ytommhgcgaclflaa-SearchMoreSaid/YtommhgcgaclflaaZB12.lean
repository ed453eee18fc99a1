/- Texts of one proof, laid together: SC, SD, SE, SF. -/
import Derived.Test.YtommhgcgaclflaaZB7
import Derived.Test.YtommhgcgaclflaaZB11
import Derived.Deep.DeepCutAuto
import Derived.Test.YtommhgcgaclflaaZB6
namespace Go.Proofs.Ytommhgcgaclflaa
set_option linter.unusedVariables false
set_option linter.unusedSimpArgs false
set_option linter.unusedSectionVars false
set_option linter.unnecessarySimpa false
open Go Go.RowKit Game
set_option maxRecDepth 100000

theorem badSize_iff {r : List Int} : badSize r = false ↔ 1 ≤ r.length ∧ r.length ≤ 4 := by
 unfold badSize
 simp only [Bool.not_eq_false', inR_iff]; omega
theorem badWid_iff {n : Nat} {r : List Int} : badWid n r = false ↔ r.length = n := by simp [badWid]
theorem badRow_iff {r : List Int} : badRow r = false ↔ ∀ i, i < r.length → -100 ≤ nth r i ∧ nth r i ≤ 100 := by
 unfold badRow
 simp only [Bool.not_eq_false', allIn_iff, inR_iff]
theorem no_step {f : List Int → Bool} {t : List (List Int)} {k : Nat} (h : ∀ j, j < k → f (row t j) = false) (g : f (row t k) = false) : ∀ j, j < k + 1 → f (row t j) = false := fun j hj => by
 rcases Nat.lt_or_ge j k with h1 | h1
 ·exact h j h1
 ·obtain rfl : j = k := by omega
  exact g
theorem chkT_size {t : List (List Int)} {k : Nat} (hk : k < t.length) (g : badSize (row t k) = true) : chkT t = 6 := by
 unfold chkT; rw [anyT_yes hk g]; simp
theorem chkT_wid {t : List (List Int)} (h : inR 1 4 (t.length : Int) = true) (h1 : anyT badSize t = false) {k : Nat} (hk : k < t.length) (g : badWid (wid t) (row t k) = true) : chkT t = 15 := by
 unfold chkT; rw [anyT_yes hk g, h, h1]; simp
theorem chkT_row {t : List (List Int)} (h : inR 1 4 (t.length : Int) = true) (h1 : anyT badSize t = false) (h2 : anyT (badWid (wid t)) t = false) {k : Nat} (hk : k < t.length) (g : badRow (row t k) = true) : chkT t = 3 := by
 unfold chkT; rw [anyT_yes hk g, h, h1, h2]; simp
theorem chkT_fine {t : List (List Int)} (h : inR 1 4 (t.length : Int) = true) (h1 : anyT badSize t = false) (h2 : anyT (badWid (wid t)) t = false) (h3 : anyT badRow t = false) : chkT t = 0 := by
 unfold chkT; rw [h, h1, h2, h3]; simp

set_option maxHeartbeats 4000000 in
theorem checkTableR_any (t : List (List Int)) (q : FitT t) (a : Option Addr) (cap : Nat) (w : World) (hT : Tab w a t) (hl : t.length ≤ 1000) (hw : ∀ i, (row t i).length ≤ 1000) :
 Calls Try.prog 24 #[(.agg #[.slice a t.length cap])] w fun e w' => e = .returned (.int .i64 (chkT t)) ∧ Ext w w' := by
 obtain ⟨w0, hw0⟩ : ∃ w0, w0 = w.alloc (.cells #[.slice a t.length cap] 24) := ⟨_, rfl⟩
 have x0 : Ext w w0 := by rw [hw0]; exact (Ext.refl w).alloc _
 have c0 : w0.cell? ⟨w.heap.size, 0, none⟩ = some (.slice a t.length cap) := by rw [hw0]; simp [go_sem]
 have HT := hid (hT.ext x0)
 have hw' := hid hw
 clear hT
 by_cases g : inR 1 4 t.length = true
 case neg =>
  have H := hid (chkT_many (t := t) (by simpa using g))
  have g1 : ¬ (1 ≤ (t.length : Int) ∧ (t.length : Int) ≤ 4) := fun h => g (inR_iff.2 h)
  replace g := hid g
  have g2 : t.length < 1 ∨ 4 < t.length := by omega
  rcases g2 with g2 | g2
  all_goals
   go_enter Try.func24, Try.ntmps24
   go_wp2_with fail
   go_ret
   exact ⟨ret_int H.out.symm, (by repeat (with_reducible first | assumption | exact Ext.refl _ | refine Ext.drew ?_ | refine Ext.drewN ?_ _ | refine Ext.alloc ?_ _ | refine xS ?_ _ | refine xT ?_ (by assumption)))⟩
 case pos =>
  have g1 := inR_iff.1 g
  have G := hid g
  clear g
  obtain ⟨b, off, ha, _, hc⟩ := HT.out.at (by omega)
  have HC := hid hc
  clear hc
  subst ha
  go_enter Try.func24, Try.ntmps24
  go_wp2_with fail
  rw [← hw0]
  replace hw0 := hid hw0
  go_loopw [4] (fun i wr => ∃ k : Nat, k ≤ t.length ∧ i = .int .i64 k ∧ Hid (∀ j, j < k → badSize (row t j) = false) ∧ Ext w0 wr) (fun i _ => (t.length - intOf i).toNat)
  case atStart => exact ⟨0, by omega, rfl, fun j hj => absurd hj (by omega), Ext.refl _⟩
  case round =>
   obtain ⟨k, hk, rfl, hj, hx⟩ := hrel
   have d0 := hx.cell c0
   by_cases hlt : k < t.length
   ·obtain ⟨ai, ci, e0, _⟩ := HC.out k hlt
    have e0 := hx.cell e0
    have hwk := hw'.out k
    have HX := hid hx
    clear hx
    cases gs : badSize (row t k) with
    | true =>
     have H := hid (chkT_size hlt gs)
     have gs' : (row t k).length < 1 ∨ 4 < (row t k).length := by
      have := mt (badSize_iff (r := row t k)).2 (by simp [gs]); omega
     replace gs := hid gs
     generalize row t k = r at *
     rcases gs' with g3 | g3
     all_goals
      go_wp2_with fail
      go_ret
      exact ⟨ret_int H.out.symm, by have := HX.out; exact (by repeat (with_reducible first | assumption | exact Ext.refl _ | refine Ext.drew ?_ | refine Ext.drewN ?_ _ | refine Ext.alloc ?_ _ | refine xS ?_ _ | refine xT ?_ (by assumption)))⟩
    | false =>
     have hj2 := hid (no_step hj.out gs)
     obtain ⟨g3, g4⟩ := badSize_iff.1 gs
     replace gs := hid gs
     generalize row t k = r at *
     go_wp2_with fail
     go_roundw
     case rel => exact ⟨k + 1, by omega, by go_num, hj2.out, HX.out⟩
     case measure => simp [intOf]; omega
   ·have H1 := hid (anyT_no (f := badSize) (t := t) fun j hj' => hj.out j (by omega))
    have HX := hid hx
    clear hx hj
    go_wp2_with fail
    clear hlt
    go_loopw [5] (fun i wr => ∃ k : Nat, k ≤ t.length ∧ i = .int .i64 k ∧ Hid (∀ j, j < k → badWid (wid t) (row t j) = false) ∧ Ext w0 wr) (fun i _ => (t.length - intOf i).toNat)
    case atStart => exact ⟨0, by omega, rfl, fun j hj => absurd hj (by omega), HX.out⟩
    case round =>
     obtain ⟨k, hk, rfl, hj, hx⟩ := hrel
     have d0 := hx.cell c0
     by_cases hlt : k < t.length
     ·obtain ⟨ai, ci, e0, _⟩ := HC.out k hlt
      obtain ⟨a0, q0, e1, _⟩ := HC.out 0 (by omega)
      have e0 := hx.cell e0
      have e1 := hx.cell e1
      rw [Nat.add_zero, show (row t 0).length = wid t from rfl] at e1
      have hwk := hw'.out k
      have hw0' := hw'.out 0
      rw [show (row t 0).length = wid t from rfl] at hw0'
      have HX := hid hx
      clear hx
      cases gs : badWid (wid t) (row t k) with
      | true =>
       have H := hid (chkT_wid G.out H1.out hlt gs)
       have gs' : ((row t k).length : Int) ≠ (wid t : Int) := by
        have := mt (badWid_iff (n := wid t) (r := row t k)).2 (by simp [gs]); omega
       have gs2 : (((row t k).length : Int) != (wid t : Int)) = true := by simpa using gs'
       replace gs := hid gs
       generalize row t k = r at *
       generalize wid t = m at *
       go_wp2_with fail
       go_quiet (fail)
       go_wp2_with fail
       go_ret
       exact ⟨ret_int H.out.symm, by have := HX.out; exact (by repeat (with_reducible first | assumption | exact Ext.refl _ | refine Ext.drew ?_ | refine Ext.drewN ?_ _ | refine Ext.alloc ?_ _ | refine xS ?_ _ | refine xT ?_ (by assumption)))⟩
      | false =>
       have hj2 := hid (no_step hj.out gs)
       have gs' := badWid_iff.1 gs
       replace gs := hid gs
       generalize row t k = r at *
       rw [gs'] at e0
       replace gs' := hid gs'
       generalize wid t = m at *
       go_wp2_with fail
       go_quiet (fail)
       go_wp2
       go_roundw
       case rel => exact ⟨k + 1, by omega, by go_num, hj2.out, by have := HX.out; exact (by repeat (with_reducible first | assumption | exact Ext.refl _ | refine Ext.drew ?_ | refine Ext.drewN ?_ _ | refine Ext.alloc ?_ _ | refine xS ?_ _ | refine xT ?_ (by assumption)))⟩
       case measure => simp [intOf]; omega
     ·have H2 := hid (anyT_no (f := badWid (wid t)) (t := t) fun j hj' => hj.out j (by omega))
      have HX := hid hx
      clear hx hj
      go_wp2_with fail
      clear hlt
      go_loopw [6] (fun i wr => ∃ k : Nat, k ≤ t.length ∧ i = .int .i64 k ∧ Hid (∀ j, j < k → badRow (row t j) = false) ∧ Ext w0 wr) (fun i _ => (t.length - intOf i).toNat)
      case atStart => exact ⟨0, by omega, rfl, fun j hj => absurd hj (by omega), HX.out⟩
      case round =>
       obtain ⟨k, hk, rfl, hj, hx⟩ := hrel
       have d0 := hx.cell c0
       by_cases hlt : k < t.length
       ·obtain ⟨ai, ci, e0, hI⟩ := HC.out k hlt
        have e0 := hx.cell e0
        have hI := hI.ext hx
        have hwk := hw'.out k
        have HX := hid hx
        have hqk := hid (q k)
        have hbad := hid (fun h => chkT_row G.out H1.out H2.out hlt (k := k) h)
        have hgood := hid (fun h => no_step (f := badRow) hj.out (k := k) h)
        have hdef := hid (show ∀ i, ent t k i = nth (row t k) i from fun _ => rfl)
        clear hx hj
        obtain ⟨r, hr⟩ : ∃ r, row t k = r := ⟨_, rfl⟩
        rw [hr] at e0 hI hwk hbad hdef hgood
        go_wp2_with fail
        go_loop [7] (fun i => ∃ j : Nat, j ≤ r.length ∧ i = .int .i64 j ∧ Hid (∀ i, i < j → -100 ≤ nth r i ∧ nth r i ≤ 100)) (fun i => (r.length - intOf i).toNat)
        case atStart => exact ⟨0, by omega, rfl, fun j hj => absurd hj (by omega)⟩
        case round =>
         obtain ⟨j, hj, rfl, hh⟩ := hrel
         by_cases hjl : j < r.length
         ·obtain ⟨b2, o2, rfl, _, hcc⟩ := hI.at (by omega)
          have e2 := hcc j hjl
          have bq := hqk.out j
          rw [hdef.out] at bq
          unfold I64 at bq
          by_cases hz : -100 ≤ nth r j ∧ nth r j ≤ 100
          ·have hh2 := hid (fun i (hi : i < j + 1) => show -100 ≤ nth r i ∧ nth r i ≤ 100 by
            rcases Nat.lt_or_ge i j with h | h
            ·exact hh.out i h
            ·obtain rfl : i = j := by omega
             exact hz)
           obtain ⟨z1, z2⟩ := hz
           clear hh hcc
           go_wp2_with fail
           go_round
           case rel => exact ⟨j + 1, by omega, by go_num, hh2.out⟩
           case measure => simp [intOf]; omega
          ·have H := hid (hbad.out (by
            cases hb : badRow r with
            | true => rfl
            | false => exact absurd (badRow_iff.1 hb j hjl) hz))
           have hz2 : nth r j < -100 ∨ 100 < nth r j := by omega
           clear hh hcc hz
           rcases hz2 with hz2 | hz2
           all_goals
            go_wp2_with fail
            go_ret
            exact ⟨ret_int H.out.symm, by have := HX.out; exact (by repeat (with_reducible first | assumption | exact Ext.refl _ | refine Ext.drew ?_ | refine Ext.drewN ?_ _ | refine Ext.alloc ?_ _ | refine xS ?_ _ | refine xT ?_ (by assumption)))⟩
         ·have hok := hid (hgood.out (badRow_iff.2 fun i hi => hh.out i (by omega)))
          clear hh
          go_wp2_with fail
          go_roundw
          case rel => exact ⟨k + 1, by omega, by go_num, hok.out, HX.out⟩
          case measure => simp [intOf]; omega
       ·have H := hid (chkT_fine G.out H1.out H2.out (anyT_no (f := badRow) (t := t) fun j hj' => hj.out j (by omega)))
        have HX := hid hx
        clear hx hj
        go_wp2_with fail
        go_ret
        exact ⟨ret_int H.out.symm, by have := HX.out; exact (by repeat (with_reducible first | assumption | exact Ext.refl _ | refine Ext.drew ?_ | refine Ext.drewN ?_ _ | refine Ext.alloc ?_ _ | refine xS ?_ _ | refine xT ?_ (by assumption)))⟩

end Go.Proofs.Ytommhgcgaclflaa
namespace Go.Proofs.Ytommhgcgaclflaa
set_option linter.unusedVariables false
set_option linter.unusedSimpArgs false
set_option linter.unusedSectionVars false
set_option linter.unnecessarySimpa false
open Go Go.RowKit Game
set_option maxRecDepth 100000

def mxl (t : List (List Int)) : Nat → Nat
 | 0 => 0
 | k + 1 => max (mxl t k) (row t k).length
theorem mxl_ge {t : List (List Int)} {n i : Nat} (h : i < n) : (row t i).length ≤ mxl t n := by
 induction n with
 | zero => omega
 | succ k ih =>
  simp only [mxl]
  rcases Nat.lt_or_ge i k with g | g
  ·have := ih g; omega
  ·obtain rfl : i = k := by omega
   omega
theorem mxl_le {t : List (List Int)} {n B : Nat} (h : ∀ i, i < n → (row t i).length ≤ B) : mxl t n ≤ B := by
 induction n with
 | zero => simp [mxl]
 | succ k ih =>
  simp only [mxl]
  have := ih fun i hi => h i (by omega)
  have := h k (by omega)
  omega
def grtT (t : List (List Int)) : Bool := decide (8 < t.length ∨ 8 < mxl t t.length)
theorem grt_no {t : List (List Int)} (h : grtT t = false) : t.length ≤ 8 ∧ ∀ i, (row t i).length ≤ 8 := by
 have := of_decide_eq_false h
 refine ⟨by omega, fun i => ?_⟩
 rcases Nat.lt_or_ge i t.length with g | g
 ·have := mxl_ge (t := t) g; omega
 ·rw [row_ge g]; simp
theorem grt_vld {t : List (List Int)} (v : VldT t) : grtT t = false := by
 refine decide_eq_false fun h => ?_
 have h1 := v.m4
 have h2 := v.n4
 have h3 : mxl t t.length ≤ 4 := mxl_le fun i hi => by rw [v.eq i hi]; exact h2
 omega

set_option maxHeartbeats 1000000 in
theorem great_any (t : List (List Int)) (a : Option Addr) (cap : Nat) (w : World) (hT : Tab w a t) (hl : t.length ≤ 9223372036854775807) (hw : ∀ i, (row t i).length ≤ 9223372036854775807) :
 Calls Try.prog 16 #[(.agg #[.slice a t.length cap])] w fun e w' => e = .returned (.bool (grtT t)) ∧ Ext w w' := by
 have hE : Ext w (w.alloc (.cells #[.slice a t.length cap] 24)) := (by repeat (with_reducible first | assumption | exact Ext.refl _ | refine Ext.drew ?_ | refine Ext.drewN ?_ _ | refine Ext.alloc ?_ _ | refine xS ?_ _ | refine xT ?_ (by assumption)))
 by_cases g : 8 < t.length
 ·have H := hid (show grtT t = true from decide_eq_true (.inl g))
  go_enter Try.func16, Try.ntmps16
  go_wp2_with fail
  go_ret
  exact ⟨ret_bool H.out.symm, (by repeat (with_reducible first | assumption | exact Ext.refl _ | refine Ext.drew ?_ | refine Ext.drewN ?_ _ | refine Ext.alloc ?_ _ | refine xS ?_ _ | refine xT ?_ (by assumption)))⟩
 ·have hTx := hid (hT.ext hE)
  have hdef := hid (show grtT t = decide (8 < mxl t t.length) by unfold grtT; simp [g])
  clear hT
  have hw' := hid hw
  go_enter Try.func16, Try.ntmps16
  go_wp2_with fail
  go_loop [3, 4] (fun n i => ∃ k : Nat, k ≤ t.length ∧ i = .int .i64 k ∧ n = .int .i64 (mxl t k)) (fun _ i => (t.length - intOf i).toNat)
  case atStart => exact ⟨0, by omega, rfl, rfl⟩
  case round =>
   obtain ⟨k, hk, rfl, rfl⟩ := hrel
   by_cases hlt : k < t.length
   ·obtain ⟨b, off, rfl, _, hc⟩ := hTx.out.at (by omega)
    obtain ⟨ai, ci, e0, _⟩ := hc k hlt
    have hs := hid (show mxl t (k + 1) = max (mxl t k) (row t k).length from rfl)
    have hb := mxl_le (t := t) (n := k) fun i _ => hw'.out i
    have hb2 := hw'.out k
    clear hc
    obtain ⟨x, hx⟩ : ∃ x, mxl t k = x := ⟨_, rfl⟩
    obtain ⟨y, hy⟩ : ∃ y, (row t k).length = y := ⟨_, rfl⟩
    rw [hx, hy] at hs
    rw [hy] at e0 hb2
    rw [hx] at hb
    rw [hx]
    replace hx := hid hx
    replace hy := hid hy
    rcases Nat.le_total x y with hxy | hxy
    all_goals
     go_wp2_with fail
     all_goals
      go_round
      case rel => exact ⟨k + 1, by omega, by go_num, by rw [hs.out]; congr 1; omega⟩
      case measure => simp [intOf]; omega
   ·obtain rfl : k = t.length := by omega
    go_wp2_with fail
    go_ret
    exact ⟨ret_bool (by rw [hdef.out]; simp; omega), (by repeat (with_reducible first | assumption | exact Ext.refl _ | refine Ext.drew ?_ | refine Ext.drewN ?_ _ | refine Ext.alloc ?_ _ | refine xS ?_ _ | refine xT ?_ (by assumption)))⟩

set_option maxHeartbeats 1000000 in
theorem fine_any (t : List (List Int)) (q : FitT t) (a : Option Addr) (cap : Nat) (w : World) (hT : Tab w a t) (hl : t.length ≤ 9223372036854775807) (hw : ∀ i, (row t i).length ≤ 9223372036854775807) :
 Calls Try.prog 40 #[(.agg #[.slice a t.length cap])] w fun e w' => e = .returned (.bool (chkT t == 0)) ∧ Ext w w' := by
 have hE0 : Ext w (w.alloc (.cells #[.slice a t.length cap] 24)) := (by repeat (with_reducible first | assumption | exact Ext.refl _ | refine Ext.drew ?_ | refine Ext.drewN ?_ _ | refine Ext.alloc ?_ _ | refine xS ?_ _ | refine xT ?_ (by assumption)))
 have hTx := hid hT
 cases g : grtT t with
 | true =>
  have H := hid (show (chkT t == 0) = false by
   have : ¬ chkT t = 0 := fun h => by rw [grt_vld (chkT_ok.1 h)] at g; cases g
   simpa using this)
  replace g := hid g
  go_enter Try.func40, Try.ntmps40
  go_wp2_with fail
  refine (great_any t a cap _ (hTx.out.ext (by repeat (with_reducible first | assumption | exact Ext.refl _ | refine Ext.drew ?_ | refine Ext.drewN ?_ _ | refine Ext.alloc ?_ _ | refine xS ?_ _ | refine xT ?_ (by assumption)))) hl hw).mono ?_; rintro e w1 ⟨rfl, hE⟩
  rw [g.out]
  go_wp2_with fail
  go_ret
  exact ⟨ret_bool (by rw [H.out]), (by repeat (with_reducible first | assumption | exact Ext.refl _ | refine Ext.drew ?_ | refine Ext.drewN ?_ _ | refine Ext.alloc ?_ _ | refine xS ?_ _ | refine xT ?_ (by assumption)))⟩
 | false =>
  have h8 := hid (grt_no g)
  have h9 : t.length ≤ 8 := h8.out.1
  replace g := hid g
  go_enter Try.func40, Try.ntmps40
  go_wp2_with fail
  refine (great_any t a cap _ (hTx.out.ext (by repeat (with_reducible first | assumption | exact Ext.refl _ | refine Ext.drew ?_ | refine Ext.drewN ?_ _ | refine Ext.alloc ?_ _ | refine xS ?_ _ | refine xT ?_ (by assumption)))) hl hw).mono ?_; rintro e w1 ⟨rfl, hE⟩
  rw [g.out]
  have c0 := hE.cell (p := ⟨w.heap.size, 0, none⟩) (v := .slice a t.length cap) (by simp [go_sem])
  go_wp2_with fail
  refine (checkTableR_any t q a cap _ (hTx.out.ext (by repeat (with_reducible first | assumption | exact Ext.refl _ | refine Ext.drew ?_ | refine Ext.drewN ?_ _ | refine Ext.alloc ?_ _ | refine xS ?_ _ | refine xT ?_ (by assumption)))) (by omega) (fun i => Nat.le_trans (h8.out.2 i) (by omega))).mono ?_; rintro e w2 ⟨rfl, hE2⟩
  go_wp2_with fail
  go_ret
  exact ⟨ret_bool (by simp), (by repeat (with_reducible first | assumption | exact Ext.refl _ | refine Ext.drew ?_ | refine Ext.drewN ?_ _ | refine Ext.alloc ?_ _ | refine xS ?_ _ | refine xT ?_ (by assumption)))⟩

set_option maxHeartbeats 1000000 in
theorem planned_any (p : List Int) (many : Nat) (hm : many ≤ 1000) (hq : ∀ i, I64 (nth p i)) (hl : p.length ≤ 1000) (a : Option Addr) (cap : Nat) (w : World) (hI : Ints w a p) :
 Calls Try.prog 62 #[.slice a p.length cap, .int .i64 many] w fun e w' => e = .returned (.int .i64 (planE p many)) ∧ Ext w w' := by
 have hdef := hid (show planE p many = if p.length ≠ many then 15 else if allIn 0 100000000 p = false then 3 else if allIn 0 0 p = true then 2 else 0 from rfl)
 have hI' := hid hI
 by_cases g : p.length = many
 case neg =>
  have H : Hid (planE p many = 15) := hid (by rw [hdef.out, if_pos g])
  have g1 : ((p.length : Int) != (many : Int)) = true := by simpa using (show (p.length : Int) ≠ many by omega)
  replace g := hid g
  go_enter Try.func62, Try.ntmps62
  go_wp2_with fail
  go_ret
  exact ⟨ret_int H.out.symm, (by repeat (with_reducible first | assumption | exact Ext.refl _ | refine Ext.drew ?_ | refine Ext.drewN ?_ _ | refine Ext.alloc ?_ _ | refine xS ?_ _ | refine xT ?_ (by assumption)))⟩
 case pos =>
  subst g
  cases g2 : allIn 0 100000000 p with
  | false =>
   have H : Hid (planE p p.length = 3) := hid (by rw [hdef.out, g2]; simp)
   have G2 := hid g2
   clear g2
   go_enter Try.func62, Try.ntmps62
   go_wp2_with fail
   refine (within_any 0 100000000 a cap p _ hI (by omega) hq).mono ?_; rintro e w1 ⟨rfl, hE⟩
   rw [G2.out]
   go_wp2_with fail
   go_ret
   exact ⟨ret_int H.out.symm, (by repeat (with_reducible first | assumption | exact Ext.refl _ | refine Ext.drew ?_ | refine Ext.drewN ?_ _ | refine Ext.alloc ?_ _ | refine xS ?_ _ | refine xT ?_ (by assumption)))⟩
  | true =>
   have G2 := hid g2
   cases g3 : allIn 0 0 p with
   | true =>
    have H : Hid (planE p p.length = 2) := hid (by rw [hdef.out, g2, g3]; simp)
    have G3 := hid g3
    clear g2 g3
    go_enter Try.func62, Try.ntmps62
    go_wp2_with fail
    refine (within_any 0 100000000 a cap p _ hI (by omega) hq).mono ?_; rintro e w1 ⟨rfl, hE⟩
    rw [G2.out]
    go_wp2_with fail
    refine (within_any 0 0 a cap p _ (hI'.out.ext (by repeat (with_reducible first | assumption | exact Ext.refl _ | refine Ext.drew ?_ | refine Ext.drewN ?_ _ | refine Ext.alloc ?_ _ | refine xS ?_ _ | refine xT ?_ (by assumption)))) (by omega) hq).mono ?_; rintro e w2 ⟨rfl, hE2⟩
    rw [G3.out]
    go_wp2_with fail
    go_ret
    exact ⟨ret_int H.out.symm, (by repeat (with_reducible first | assumption | exact Ext.refl _ | refine Ext.drew ?_ | refine Ext.drewN ?_ _ | refine Ext.alloc ?_ _ | refine xS ?_ _ | refine xT ?_ (by assumption)))⟩
   | false =>
    have H : Hid (planE p p.length = 0) := hid (by rw [hdef.out, g2, g3]; simp)
    have G3 := hid g3
    clear g2 g3
    go_enter Try.func62, Try.ntmps62
    go_wp2_with fail
    refine (within_any 0 100000000 a cap p _ hI (by omega) hq).mono ?_; rintro e w1 ⟨rfl, hE⟩
    rw [G2.out]
    go_wp2_with fail
    refine (within_any 0 0 a cap p _ (hI'.out.ext (by repeat (with_reducible first | assumption | exact Ext.refl _ | refine Ext.drew ?_ | refine Ext.drewN ?_ _ | refine Ext.alloc ?_ _ | refine xS ?_ _ | refine xT ?_ (by assumption)))) (by omega) hq).mono ?_; rintro e w2 ⟨rfl, hE2⟩
    rw [G3.out]
    go_wp2_with fail
    go_ret
    exact ⟨ret_int H.out.symm, (by repeat (with_reducible first | assumption | exact Ext.refl _ | refine Ext.drew ?_ | refine Ext.drewN ?_ _ | refine Ext.alloc ?_ _ | refine xS ?_ _ | refine xT ?_ (by assumption)))⟩

set_option maxHeartbeats 1000000 in
theorem planErrorR_any (p : List Int) (many : Nat) (hm : many ≤ 1000) (hq : ∀ i, I64 (nth p i)) (hl : p.length ≤ 1000) (a : Option Addr) (cap : Nat) (w : World) (hI : Ints w a p) :
 Calls Try.prog 64 #[.slice a p.length cap, .int .i64 many] w fun e w' => e = .returned (.int .i64 (planE p many)) ∧ Ext w w' := by
 have hdef := hid (show planE p many = if p.length ≠ many then 15 else if allIn 0 100000000 p = false then 3 else if allIn 0 0 p = true then 2 else 0 from rfl)
 have hI' := hid hI
 by_cases g : p.length = many
 case neg =>
  have H : Hid (planE p many = 15) := hid (by rw [hdef.out, if_pos g])
  have g1 : ((p.length : Int) != (many : Int)) = true := by simpa using (show (p.length : Int) ≠ many by omega)
  replace g := hid g
  go_enter Try.func64, Try.ntmps64
  go_wp2_with fail
  go_ret
  exact ⟨ret_int H.out.symm, (by repeat (with_reducible first | assumption | exact Ext.refl _ | refine Ext.drew ?_ | refine Ext.drewN ?_ _ | refine Ext.alloc ?_ _ | refine xS ?_ _ | refine xT ?_ (by assumption)))⟩
 case pos =>
  subst g
  have hq' := hid hq
  go_enter Try.func64, Try.ntmps64
  go_wp2_with fail
  go_loop [5] (fun i => ∃ k : Nat, k ≤ p.length ∧ i = .int .i64 k ∧ Hid (∀ j, j < k → inR 0 100000000 (nth p j) = true)) (fun i => (p.length - intOf i).toNat)
  case atStart => exact ⟨0, by omega, rfl, fun j hj => absurd hj (by omega)⟩
  case round =>
   obtain ⟨k, hk, rfl, hj⟩ := hrel
   by_cases hlt : k < p.length
   ·obtain ⟨b, off, rfl, _, hc⟩ := hI.at (by omega)
    have e0 := hc k hlt
    have bq := hq'.out k
    unfold I64 at bq
    clear hc
    by_cases hz : 0 ≤ nth p k ∧ nth p k ≤ 100000000
    ·have hj2 := hid (fun i (hi : i < k + 1) => show inR 0 100000000 (nth p i) = true by
      rcases Nat.lt_or_ge i k with h | h
      ·exact hj.out i h
      ·obtain rfl : i = k := by omega
       exact inR_iff.2 hz)
     obtain ⟨z1, z2⟩ := hz
     clear hj
     go_wp2_with fail
     go_round
     case rel => exact ⟨k + 1, by omega, by go_num, hj2.out⟩
     case measure => simp [intOf]; omega
    ·have H : Hid (planE p p.length = 3) := hid (by
      rw [hdef.out, allIn_no hlt (by
       cases hb : inR 0 100000000 (nth p k) with
       | false => rfl
       | true => exact absurd (inR_iff.1 hb) hz)]; simp)
     have hz2 : nth p k < 0 ∨ 100000000 < nth p k := by omega
     clear hj hz
     rcases hz2 with hz2 | hz2
     all_goals
      go_wp2_with fail
      go_ret
      exact ⟨ret_int H.out.symm, Ext.refl _⟩
   ·have hall := allIn_iff.2 (fun i hi => hj.out i (show i < k by omega))
    have hnn : ∀ i, 0 ≤ nth p i ∧ nth p i ≤ 100000000 := fun i => by
     rcases Nat.lt_or_ge i p.length with h | h
     ·exact inR_iff.1 (hj.out i (by omega))
     ·rw [nth_ge h]; omega
    have hz := hid (psum_zero fun i => (hnn i).1)
    have hnn := hid hnn
    have hall := hid hall
    clear hj
    by_cases g3 : psum p = 0
    ·have H : Hid (planE p p.length = 2) := hid (by rw [hdef.out, hall.out, (hz.out).1 g3]; simp)
     have G3 := hid g3
     clear g3
     go_wp2_with fail
     refine (sumR_any p hnn.out hl a cap _ hI'.out).mono ?_; rintro e w1 ⟨rfl, hE⟩
     rw [G3.out]
     go_wp2_with fail
     go_ret
     exact ⟨ret_int H.out.symm, (by repeat (with_reducible first | assumption | exact Ext.refl _ | refine Ext.drew ?_ | refine Ext.drewN ?_ _ | refine Ext.alloc ?_ _ | refine xS ?_ _ | refine xT ?_ (by assumption)))⟩
    ·have H : Hid (planE p p.length = 0) := hid (by
      have h0 : ¬ allIn 0 0 p = true := fun h => g3 ((hz.out).2 h)
      rw [hdef.out, hall.out, if_neg (by simp), if_neg (by simp), if_neg h0])
     have g4 : (psum p == 0) = false := by simpa using g3
     have G3 := hid g3
     clear g3
     go_wp2_with fail
     refine (sumR_any p hnn.out hl a cap _ hI'.out).mono ?_; rintro e w1 ⟨rfl, hE⟩
     go_wp2_with fail
     go_ret
     exact ⟨ret_int H.out.symm, (by repeat (with_reducible first | assumption | exact Ext.refl _ | refine Ext.drew ?_ | refine Ext.drewN ?_ _ | refine Ext.alloc ?_ _ | refine xS ?_ _ | refine xT ?_ (by assumption)))⟩

set_option maxHeartbeats 1000000 in
theorem ints_any (l k : List Int) (hl : l.length ≤ 1000) (hk : k.length ≤ 1000) (a b : Option Addr) (ca cb : Nat) (w : World) (hA : Ints w a l) (hB : Ints w b k) :
 Calls Try.prog 35 #[.slice a l.length ca, .slice b k.length cb] w fun e w' => e = .returned (.bool (decide (l = k))) ∧ Ext w w' := by
 by_cases g : l.length = k.length
 case neg =>
  have H := hid (show decide (l = k) = false from decide_eq_false fun e => g (by rw [e]))
  have g1 : ((l.length : Int) != (k.length : Int)) = true := by simpa using (show (l.length : Int) ≠ k.length by omega)
  replace g := hid g
  go_enter Try.func35, Try.ntmps35
  go_wp2_with fail
  go_ret
  exact ⟨ret_bool H.out.symm, Ext.refl _⟩
 case pos =>
  have G := hid g
  obtain ⟨n, hn⟩ : ∃ n, k.length = n := ⟨_, rfl⟩
  rw [hn] at g ⊢
  rw [g]
  have hA' := hid hA
  have hB' := hid hB
  clear hA hB
  have hN := hid hn
  have hL := hid g
  rw [hn] at hk
  clear g hn hl
  go_enter Try.func35, Try.ntmps35
  go_wp2_with fail
  go_loopw [5] (fun i wr => ∃ j : Nat, j ≤ n ∧ i = .int .i64 j ∧ Hid (∀ i, i < j → nth l i = nth k i) ∧ Ext w wr) (fun i _ => (n - intOf i).toNat)
  case atStart => exact ⟨0, by omega, rfl, fun j hj => absurd hj (by omega), Ext.refl _⟩
  case round =>
   obtain ⟨j, hj, rfl, hh, hx⟩ := hrel
   by_cases hlt : j < n
   ·obtain ⟨b1, o1, rfl, _, hc1⟩ := hA'.out.at (by rw [hL.out]; omega)
    obtain ⟨b2, o2, rfl, _, hc2⟩ := hB'.out.at (by rw [hN.out]; omega)
    have e1 := hx.cell (hc1 j (by rw [hL.out]; omega))
    have e2 := hx.cell (hc2 j (by rw [hN.out]; omega))
    have HX := hid hx
    clear hc1 hc2 hx
    by_cases hz : nth l j = nth k j
    ·have hh2 := hid (fun i (hi : i < j + 1) => show nth l i = nth k i by
      rcases Nat.lt_or_ge i j with h | h
      ·exact hh.out i h
      ·obtain rfl : i = j := by omega
       exact hz)
     rw [hz] at e1
     clear hh hz
     have hne : (nth k j != nth k j) = false := by simp
     go_wp2_with fail
     go_quiet (fail)
     go_wp2
     go_roundw
     case rel => exact ⟨j + 1, by omega, by go_num, hh2.out, by have := HX.out; exact (by repeat (with_reducible first | assumption | exact Ext.refl _ | refine Ext.drew ?_ | refine Ext.drewN ?_ _ | refine Ext.alloc ?_ _ | refine xS ?_ _ | refine xT ?_ (by assumption)))⟩
     case measure => simp [intOf]; omega
    ·have H := hid (show decide (l = k) = false from decide_eq_false fun e => hz (by rw [e]))
     have hne : (nth l j != nth k j) = true := by simpa using hz
     clear hh hz
     go_wp2_with fail
     go_quiet (fail)
     go_wp2_with fail
     go_ret
     exact ⟨ret_bool H.out.symm, by have := HX.out; exact (by repeat (with_reducible first | assumption | exact Ext.refl _ | refine Ext.drew ?_ | refine Ext.drewN ?_ _ | refine Ext.alloc ?_ _ | refine xS ?_ _ | refine xT ?_ (by assumption)))⟩
   ·have H := hid (show decide (l = k) = true from decide_eq_true (nth_ext G.out fun i hi => hh.out i (by rw [hL.out] at hi; omega)))
    have HX := hid hx
    clear hh hx
    go_wp2_with fail
    go_ret
    exact ⟨ret_bool H.out.symm, HX.out⟩

end Go.Proofs.Ytommhgcgaclflaa
namespace Go.Proofs.Ytommhgcgaclflaa
set_option linter.unusedVariables false
set_option linter.unusedSimpArgs false
set_option linter.unusedSectionVars false
set_option linter.unnecessarySimpa false
open Go Go.RowKit Game
set_option maxRecDepth 100000

theorem elemI64 : ElemI Try.prog 2 := elemI_mk (by kernel_rfl)
theorem elemRow : ElemS Try.prog 25 := elemS_mk (by kernel_rfl)

def Dsk (w : World) (D : Nat) (t : List (List Int)) : Prop := ∃ a cap, w.cell? ⟨D, 0, none⟩ = some (.slice a t.length cap) ∧ Tab w a t
theorem Dsk.ext {w w' : World} {D : Nat} {t : List (List Int)} (h : Dsk w D t) (k : Ext w w') : Dsk w' D t :=
 let ⟨a, c, h1, h2⟩ := h; ⟨a, c, k.cell h1, h2.ext k⟩
structure Grw (w : World) (D : Nat) (e : TypeId) (v : Value) (t : List (List Int)) : Prop where
 c : w.cell? ⟨D, 0, none⟩ = some v
 f : w.frozen? ⟨D, 0, none⟩ = false
 o : OwnT w (D + 1) (D + 1) e v t
 l : D < w.heap.size
theorem Grw.ext {w w' : World} {D : Nat} {e : TypeId} {v : Value} {t : List (List Int)} (h : Grw w D e v t) (k : Ext w w') : Grw w' D e v t :=
 ⟨k.cell h.c, (k.frozen h.l).trans h.f, h.o.ext k, Nat.lt_of_lt_of_le h.l k.size⟩

theorem Grw.app {w w' : World} {D : Nat} {e : TypeId} {v : Value} {t : List (List Int)} (h : Grw w D e v t) (hg : w.grownBy w' v.ownBlock) :
 w'.cell? ⟨D, 0, none⟩ = some v ∧ w'.frozen? ⟨D, 0, none⟩ = false ∧ D < w'.heap.size ∧ ∀ w0, Ext w0 w → w0.heap.size ≤ D + 1 → Ext w0 w' := by
 have hne : ∀ k, v.ownBlock = some k → D + 1 ≤ k := fun k hk => (h.o.block k hk).1
 have hh : w'.heap[D]? = w.heap[D]? := hg.block D h.l fun e => by have := hne _ e.symm; omega
 exact ⟨(World.cell?_of_block hh).trans h.c, (World.frozen?_of_block hh).trans h.f, Nat.lt_of_lt_of_le h.l hg.size, fun w0 k0 h0 => Ext.grown k0 hg fun k hk => by have := hne k hk; omega⟩
theorem Grw.old {w w' : World} {D : Nat} {e : TypeId} {v : Value} {t : List (List Int)} (h : Grw w D e v t) (hg : w.grownBy w' v.ownBlock) (C : Nat) (hC : C < D) (o : Nat) :
 w'.cell? ⟨C, o, none⟩ = w.cell? ⟨C, o, none⟩ ∧ w'.frozen? ⟨C, o, none⟩ = w.frozen? ⟨C, o, none⟩ := by
 have hl := h.l
 have hh : w'.heap[C]? = w.heap[C]? := hg.block C (by omega) fun e => by have := (h.o.block _ e.symm).1; omega
 exact ⟨World.cell?_of_block hh, World.frozen?_of_block hh⟩
theorem Grw.put {w : World} {D : Nat} {e : TypeId} {t : List (List Int)} {u v : Value} (h : OwnT w (D + 1) (D + 1) e v t) (hc : w.cell? ⟨D, 0, none⟩ = some u) (hf : w.frozen? ⟨D, 0, none⟩ = false) (hl : D < w.heap.size) : Grw (w.setCell ⟨D, 0, none⟩ v) D e v t :=
 ⟨by simp [go_sem, hc], by simp [go_sem, hf], h.put (Nat.lt_succ_self D) (Nat.lt_succ_self D) v, by simpa using hl⟩

set_option maxHeartbeats 2000000 in
theorem turned_any (t : List (List Int)) (v : VldT t) (D0 : Nat) (w : World) (hD : Dsk w D0 t) :
 Calls Try.prog 89 #[.pointer (some ⟨D0, 0, none⟩)] w fun e w' => ∃ D, e = .returned (.pointer (some ⟨D, 0, none⟩)) ∧ Dsk w' D (turn t) ∧ Ext w w' := by
 have m1 := v.m1; have m4 := v.m4; have n1 := v.n1; have n4 := v.n4
 obtain ⟨a, cap, hc, hT⟩ := hD
 obtain ⟨b, off, B, O, C, rfl, hb, hcc⟩ := hT.full (by omega) v.eq (by omega)
 have HC := hid hcc
 clear hcc hT
 have e00 := (HC.out 0 (by omega)).1
 rw [Nat.add_zero] at e00
 have hDl := cell_lt hc
 simp only at hDl
 go_enter Try.func89, Try.ntmps89
 go_wp2_with fail
 obtain ⟨D, hDD⟩ : ∃ D, D = w.heap.size := ⟨_, rfl⟩
 have hD1 : w.heap.size ≤ D := by omega
 rw [← hDD]
 have hDne : D0 < D := by omega
 have hbD : b < D := by omega
 replace hDD := hid hDD
 go_loopw [18] (fun i wr => ∃ (k : Nat) (vv : Value), k ≤ wid t ∧ i = .int .i64 k ∧ Hid (Grw wr D 25 vv (turnN t k)) ∧ Ext w wr) (fun i _ => (wid t - intOf i).toNat)
 case atStart => exact ⟨0, .slice none 0 0, by omega, rfl, hid ⟨by rw [hDD.out]; simp [go_sem], by rw [hDD.out]; simp [go_sem], OwnT.nil _ _ _ _, by rw [hDD.out]; simp⟩, (by repeat (with_reducible first | assumption | exact Ext.refl _ | refine Ext.drew ?_ | refine Ext.drewN ?_ _ | refine Ext.alloc ?_ _ | refine xS ?_ _ | refine xT ?_ (by assumption)))⟩
 case round =>
  obtain ⟨k, vv, hk, rfl, hG, hw⟩ := hrel
  by_cases hlt : k < wid t
  ·have hc' := hw.cell hc
   have HW := hid hw
   have zr := Ext.size hw
   obtain ⟨w1, rfl⟩ : ∃ w1 : World, w1 = wr := ⟨_, rfl⟩
   clear hw
   go_wp2_with fail
   go_loopw [5, 27] (fun r i wr => ∃ j : Nat, j ≤ t.length ∧ i = .int .i64 j ∧ OwnI wr w1.heap.size 2 r (colN t k j) ∧ Ext w1 wr) (fun _ i _ => (t.length - intOf i).toNat)
   case atStart => exact ⟨0, by omega, rfl, OwnI.nil _ _ _, Ext.refl _⟩
   case round =>
    obtain ⟨j, hj, rfl, ho, hx⟩ := hrel
    by_cases hjl : j < t.length
    ·obtain ⟨p0, _, p1⟩ := HC.out j hjl
     have xw := HW.out.trans hx
     have p0 := xw.cell p0
     have p1 := xw.cell (p1 k hlt)
     have hlen := hid (colN_len t k j)
     have hst := hid (show colN t k (j + 1) = colN t k j ++ [- ent t j k] from rfl)
     have bl := v.lo j k
     have bh := v.hi j k
     have z1 := Go.IntWalk.i64_in (- ent t j k) (by omega)
     clear xw
     generalize ent t j k = x at *
     go_wp2_with (at_builtin; refine app_int rfl _ _ _ rfl 2 Try.underlying25 elemI64 w1.heap.size (colN t k j) (- x) _ rfl _ rfl (ho.ext (by repeat (with_reducible first | assumption | exact Ext.refl _ | refine Ext.drew ?_ | refine Ext.drewN ?_ _ | refine Ext.alloc ?_ _ | refine xS ?_ _ | refine xT ?_ (by assumption)))) ?c1 ?c2 ?c3 ?_; (case c1 => simp [go_sem]); (case c2 => rw [hlen.out]; omega); (case c3 => have := Ext.size hx; simp; omega); intro b9 cp9 w9 own9 ext9 hb9 g9)
     go_roundw
     case rel => exact ⟨j + 1, by omega, by go_num, by rw [hst.out]; have h := own9; simp only [List.length_append, List.length_singleton] at h; exact h, ext9 w1 (by repeat (with_reducible first | assumption | exact Ext.refl _ | refine Ext.drew ?_ | refine Ext.drewN ?_ _ | refine Ext.alloc ?_ _ | refine xS ?_ _ | refine xT ?_ (by assumption))) (Nat.le_refl _)⟩
     case measure => simp [intOf]; omega
    ·obtain rfl : j = t.length := by omega
     have hlen := hid (colN_len t k t.length)
     have hlt2 := hid (turnN_len t k)
     have hst := hid (show turnN t (k + 1) = turnN t k ++ [colN t k t.length] from rfl)
     have hG2 := hid (hG.out.ext hx)
     have ra := ho.block
     obtain ⟨ba, cpa, rfl, hIa⟩ := ho.slice
     have hcapa := hid ho.cap
     have cD := hG2.out.c
     have fD := hG2.out.f
     have lD := hG2.out.l
     have xw := HW.out.trans hx
     have hDw := hid (Nat.lt_of_lt_of_le hG.out.l (Nat.le_refl _))
     go_wp2_with (at_builtin; refine app_row rfl _ _ _ rfl 25 Try.underlying22 elemRow (D + 1) (D + 1) (turnN t k) vv rfl _ rfl (hG2.out.o.ext (by repeat (with_reducible first | assumption | exact Ext.refl _ | refine Ext.drew ?_ | refine Ext.drewN ?_ _ | refine Ext.alloc ?_ _ | refine xS ?_ _ | refine xT ?_ (by assumption)))) (colN t k t.length) ba _ cpa rfl ?c4 (hIa.ext (by repeat (with_reducible first | assumption | exact Ext.refl _ | refine Ext.drew ?_ | refine Ext.drewN ?_ _ | refine Ext.alloc ?_ _ | refine xS ?_ _ | refine xT ?_ (by assumption)))) hcapa.out.2 ?c5 ?c6 ?c7 ?_; (case c4 => simp [go_sem]); (case c5 => intro bb oo h0 e; subst e; have z1 := (ra bb (by simp [Value.ownBlock])).1; have z2 := hG.out.l; exact ⟨fun he => by have := (hG.out.o.block bb he).2; omega, by omega⟩); (case c6 => rw [hlt2.out]; omega); (case c7 => simp; omega); intro b9 cp9 w9 own9 g9 at9 hb9; obtain ⟨q0, q1, q2, q3⟩ := (hG2.out.ext (show Ext wr _ from (by repeat (with_reducible first | assumption | exact Ext.refl _ | refine Ext.drew ?_ | refine Ext.drewN ?_ _ | refine Ext.alloc ?_ _ | refine xS ?_ _ | refine xT ?_ (by assumption))))).app g9)
     go_roundw
     case rel => exact ⟨k + 1, _, by omega, by go_num, hid (by rw [hst.out]; exact Grw.put own9 q0 q1 q2), by have xx := q3 w (by repeat (with_reducible first | assumption | exact Ext.refl _ | refine Ext.drew ?_ | refine Ext.drewN ?_ _ | refine Ext.alloc ?_ _ | refine xS ?_ _ | refine xT ?_ (by assumption))) (by omega); exact (by repeat (with_reducible first | assumption | exact Ext.refl _ | refine Ext.drew ?_ | refine Ext.drewN ?_ _ | refine Ext.alloc ?_ _ | refine xS ?_ _ | refine xT ?_ (by assumption)))⟩
     case measure => simp [intOf]; omega
  ·obtain rfl : k = wid t := by omega
   go_wp2_with fail
   go_ret
   refine ⟨D, by simp [go_sem], ?_, (by repeat (with_reducible first | assumption | exact Ext.refl _ | refine Ext.drew ?_ | refine Ext.drewN ?_ _ | refine Ext.alloc ?_ _ | refine xS ?_ _ | refine xT ?_ (by assumption)))⟩
   obtain ⟨aa, cc, rfl, hTT⟩ := hG.out.o.slice
   exact ⟨aa, cc, hG.out.c, hTT⟩

end Go.Proofs.Ytommhgcgaclflaa
namespace Go.Proofs.Ytommhgcgaclflaa
set_option linter.unusedVariables false
set_option linter.unusedSimpArgs false
set_option linter.unusedSectionVars false
set_option linter.unnecessarySimpa false
open Go Go.RowKit Game
set_option maxRecDepth 100000

def RetT (t : List (List Int)) (w : World) (e : Ending) (w' : World) : Prop := ∃ a cap, e = .returned (.agg #[.slice a t.length cap]) ∧ Tab w' a t ∧ Ext w w'

set_option maxHeartbeats 2000000 in
theorem turnedR_any (t : List (List Int)) (v : VldT t) (a : Option Addr) (cap : Nat) (w : World) (hT : Tab w a t) :
 Calls Try.prog 53 #[(.agg #[.slice a t.length cap])] w (RetT (turn t) w) := by
 have m1 := v.m1; have m4 := v.m4; have n1 := v.n1; have n4 := v.n4
 obtain ⟨b, off, B, O, C, rfl, hb, hcc⟩ := hT.full (by omega) v.eq (by omega)
 have HC := hid hcc
 clear hcc hT
 have e00 := (HC.out 0 (by omega)).1
 rw [Nat.add_zero] at e00
 go_enter Try.func53, Try.ntmps53
 go_wp2_with fail
 obtain ⟨D, hDD⟩ : ∃ D, D = w.heap.size + 2 := ⟨_, rfl⟩
 obtain ⟨w0, hw0⟩ : ∃ w0, w0 = ((w.alloc (.cells #[.slice (some ⟨b, off, none⟩) t.length cap] 24)).alloc (.cells #[.slice none 0 0] 24)).alloc (.cells #[.slice none 0 0] 24) := ⟨_, rfl⟩
 have x0 : Ext w w0 := by rw [hw0]; exact (by repeat (with_reducible first | assumption | exact Ext.refl _ | refine Ext.drew ?_ | refine Ext.drewN ?_ _ | refine Ext.alloc ?_ _ | refine xS ?_ _ | refine xT ?_ (by assumption)))
 have d0 : w0.cell? ⟨w.heap.size, 0, none⟩ = some (.slice (some ⟨b, off, none⟩) t.length cap) := by rw [hw0]; simp [go_sem]
 have d1 : w0.cell? ⟨w.heap.size + 1, 0, none⟩ = some (.slice none 0 0) := by rw [hw0]; simp [go_sem]
 have d2 : w0.cell? ⟨w.heap.size + 2, 0, none⟩ = some (.slice none 0 0) := by rw [hw0]; simp [go_sem]
 have g1 : w0.frozen? ⟨w.heap.size + 1, 0, none⟩ = false := by rw [hw0]; simp [go_sem]
 have g2 : w0.frozen? ⟨w.heap.size + 2, 0, none⟩ = false := by rw [hw0]; simp [go_sem]
 have s0 : w0.heap.size = w.heap.size + 3 := by rw [hw0]; simp
 obtain ⟨E, hE⟩ : ∃ E, E = w.heap.size + 1 := ⟨_, rfl⟩
 obtain ⟨T, hTT⟩ : ∃ T, T = w.heap.size := ⟨_, rfl⟩
 rw [show w.heap.size + 1 + 1 = w.heap.size + 2 from rfl, ← hw0, ← hDD, ← hE, ← hTT]
 rw [← hTT] at d0
 rw [← hE] at d1 g1
 rw [← hDD] at d2 g2
 have hTD : T < D := by omega
 have hED : E < D := by omega
 have hbD : b < D := by omega
 have hD1 : w.heap.size + 2 ≤ D := by omega
 have hs0 : w0.heap.size = D + 1 := by omega
 have hE1 : w.heap.size ≤ E := by omega
 clear hw0 s0
 replace hDD := hid hDD
 replace hE := hid hE
 replace hTT := hid hTT
 have e00 := x0.cell e00
 go_loopw [4] (fun i wr => ∃ (k : Nat) (vv : Value), k ≤ wid t ∧ i = .int .i64 k ∧ Hid (Grw wr D 25 vv (turnN t k)) ∧ Hid (wr.cell? ⟨T, 0, none⟩ = some (.slice (some ⟨b, off, none⟩) t.length cap) ∧ wr.cell? ⟨E, 0, none⟩ = some (.slice none 0 0) ∧ wr.frozen? ⟨E, 0, none⟩ = false) ∧ Ext w wr) (fun i _ => (wid t - intOf i).toNat)
 case atStart => exact ⟨0, .slice none 0 0, by omega, rfl, hid ⟨d2, g2, OwnT.nil _ _ _ _, by omega⟩, hid ⟨d0, d1, g1⟩, x0⟩
 case round =>
  obtain ⟨k, vv, hk, rfl, hG, hF, hw⟩ := hrel
  obtain ⟨d0', d1', g1'⟩ := hF.out
  by_cases hlt : k < wid t
  ·have HW := hid hw
   obtain ⟨w1, rfl⟩ : ∃ w1 : World, w1 = wr := ⟨_, rfl⟩
   have e00 := hw.cell (HC.out 0 (by omega)).1
   rw [Nat.add_zero] at e00
   clear hw d0 d1 d2 g1 g2
   go_wp2_with fail
   go_loopw [5, 6] (fun r i wr => ∃ j : Nat, j ≤ t.length ∧ i = .int .i64 j ∧ OwnI wr w1.heap.size 2 r (colN t k j) ∧ Ext w1 wr) (fun _ i _ => (t.length - intOf i).toNat)
   case atStart => exact ⟨0, by omega, rfl, OwnI.nil _ _ _, Ext.refl _⟩
   case round =>
    obtain ⟨j, hj, rfl, ho, hx⟩ := hrel
    have d0' := hx.cell d0'
    by_cases hjl : j < t.length
    ·obtain ⟨p0, _, p1⟩ := HC.out j hjl
     have xw := HW.out.trans hx
     have p0 := xw.cell p0
     have p1 := xw.cell (p1 k hlt)
     have hlen := hid (colN_len t k j)
     have hst := hid (show colN t k (j + 1) = colN t k j ++ [- ent t j k] from rfl)
     have bl := v.lo j k
     have bh := v.hi j k
     have z1 := Go.IntWalk.i64_in (- ent t j k) (by omega)
     clear xw
     generalize ent t j k = x at *
     go_wp2_with (at_builtin; refine app_int rfl _ _ _ rfl 2 Try.underlying25 elemI64 w1.heap.size (colN t k j) (- x) _ rfl _ rfl (ho.ext (by repeat (with_reducible first | assumption | exact Ext.refl _ | refine Ext.drew ?_ | refine Ext.drewN ?_ _ | refine Ext.alloc ?_ _ | refine xS ?_ _ | refine xT ?_ (by assumption)))) ?c1 ?c2 ?c3 ?_; (case c1 => simp [go_sem]); (case c2 => rw [hlen.out]; omega); (case c3 => have := Ext.size hx; simp; omega); intro b9 cp9 w9 own9 ext9 hb9 g9)
     go_roundw
     case rel => exact ⟨j + 1, by omega, by go_num, by rw [hst.out]; have h := own9; simp only [List.length_append, List.length_singleton] at h; exact h, ext9 w1 (by repeat (with_reducible first | assumption | exact Ext.refl _ | refine Ext.drew ?_ | refine Ext.drewN ?_ _ | refine Ext.alloc ?_ _ | refine xS ?_ _ | refine xT ?_ (by assumption))) (Nat.le_refl _)⟩
     case measure => simp [intOf]; omega
    ·obtain rfl : j = t.length := by omega
     have hlen := hid (colN_len t k t.length)
     have hlt2 := hid (turnN_len t k)
     have hst := hid (show turnN t (k + 1) = turnN t k ++ [colN t k t.length] from rfl)
     have hG2 := hid (hG.out.ext hx)
     have ra := ho.block
     obtain ⟨ba, cpa, rfl, hIa⟩ := ho.slice
     have hcapa := hid ho.cap
     have cD := hG2.out.c
     have fD := hG2.out.f
     have lD := hG2.out.l
     have xw := HW.out.trans hx
     have hF2 := hid (And.intro d0' (And.intro (hx.cell d1') ((hx.frozen (cell_lt d1')).trans g1')))
     go_wp2_with (at_builtin; refine app_row rfl _ _ _ rfl 25 Try.underlying22 elemRow (D + 1) (D + 1) (turnN t k) vv rfl _ rfl (hG2.out.o.ext (by repeat (with_reducible first | assumption | exact Ext.refl _ | refine Ext.drew ?_ | refine Ext.drewN ?_ _ | refine Ext.alloc ?_ _ | refine xS ?_ _ | refine xT ?_ (by assumption)))) (colN t k t.length) ba _ cpa rfl ?c4 (hIa.ext (by repeat (with_reducible first | assumption | exact Ext.refl _ | refine Ext.drew ?_ | refine Ext.drewN ?_ _ | refine Ext.alloc ?_ _ | refine xS ?_ _ | refine xT ?_ (by assumption)))) hcapa.out.2 ?c5 ?c6 ?c7 ?_; (case c4 => simp [go_sem]); (case c5 => intro bb oo h0 e; subst e; have z1 := (ra bb (by simp [Value.ownBlock])).1; have z2 := hG.out.l; exact ⟨fun he => by have := (hG.out.o.block bb he).2; omega, by omega⟩); (case c6 => rw [hlt2.out]; omega); (case c7 => simp; omega); intro b9 cp9 w9 own9 g9 at9 hb9; obtain ⟨q0, q1, q2, q3⟩ := (hG2.out.ext (show Ext wr _ from (by repeat (with_reducible first | assumption | exact Ext.refl _ | refine Ext.drew ?_ | refine Ext.drewN ?_ _ | refine Ext.alloc ?_ _ | refine xS ?_ _ | refine xT ?_ (by assumption))))).app g9; obtain ⟨r0, r1⟩ := (hG2.out.ext (show Ext wr _ from (by repeat (with_reducible first | assumption | exact Ext.refl _ | refine Ext.drew ?_ | refine Ext.drewN ?_ _ | refine Ext.alloc ?_ _ | refine xS ?_ _ | refine xT ?_ (by assumption))))).old g9 T hTD 0; obtain ⟨r2, r3⟩ := (hG2.out.ext (show Ext wr _ from (by repeat (with_reducible first | assumption | exact Ext.refl _ | refine Ext.drew ?_ | refine Ext.drewN ?_ _ | refine Ext.alloc ?_ _ | refine xS ?_ _ | refine xT ?_ (by assumption))))).old g9 E hED 0)
     have hlD := hG.out.l
     go_roundw
     case rel => exact ⟨k + 1, _, by omega, by go_num, hid (by rw [hst.out]; exact Grw.put own9 q0 q1 q2), hid ⟨by simp [go_sem, r0, Nat.ne_of_lt hTD]; exact Ext.cell (by repeat (with_reducible first | assumption | exact Ext.refl _ | refine Ext.drew ?_ | refine Ext.drewN ?_ _ | refine Ext.alloc ?_ _ | refine xS ?_ _ | refine xT ?_ (by assumption))) hF2.out.1, by simp [go_sem, r2, Nat.ne_of_lt hED]; exact Ext.cell (by repeat (with_reducible first | assumption | exact Ext.refl _ | refine Ext.drew ?_ | refine Ext.drewN ?_ _ | refine Ext.alloc ?_ _ | refine xS ?_ _ | refine xT ?_ (by assumption))) hF2.out.2.1, by simp [go_sem, r3, Nat.ne_of_lt hED]; exact (Ext.frozen (w := wr) (by repeat (with_reducible first | assumption | exact Ext.refl _ | refine Ext.drew ?_ | refine Ext.drewN ?_ _ | refine Ext.alloc ?_ _ | refine xS ?_ _ | refine xT ?_ (by assumption))) (cell_lt hF2.out.2.1)).trans hF2.out.2.2⟩, by have xx := q3 w (by repeat (with_reducible first | assumption | exact Ext.refl _ | refine Ext.drew ?_ | refine Ext.drewN ?_ _ | refine Ext.alloc ?_ _ | refine xS ?_ _ | refine xT ?_ (by assumption))) (by omega); exact (by repeat (with_reducible first | assumption | exact Ext.refl _ | refine Ext.drew ?_ | refine Ext.drewN ?_ _ | refine Ext.alloc ?_ _ | refine xS ?_ _ | refine xT ?_ (by assumption)))⟩
     case measure => simp [intOf]; omega
  ·obtain rfl : k = wid t := by omega
   have e00 := hw.cell (HC.out 0 (by omega)).1
   rw [Nat.add_zero] at e00
   obtain ⟨aa, cc, hv, hTT2⟩ := hG.out.o.slice
   have cD := hG.out.c
   rw [hv, show (turnN t (wid t)).length = (turn t).length from rfl] at cD
   have hput := hid (fun u => show Tab (wr.setCell ⟨E, 0, none⟩ u) aa (turn t) by
    obtain ⟨a3, c3, h3, h4⟩ := (hG.out.o.put (p := ⟨E, 0, none⟩) (by simp; omega) (by simp; omega) u).slice
    rw [hv] at h3
    simp only [Value.slice.injEq] at h3
    rw [h3.1]; exact h4)
   have HW := hid hw
   clear hw hG hv hTT2
   go_wp2_with fail
   refine bodyPost_ret (v := (.agg #[.slice aa (turn t).length cc])) ?_ rfl ?_
   ·simp [results, Try.results53, go_sem, *]
   ·exact ⟨aa, cc, rfl, hput.out _, by have := HW.out; exact (by repeat (with_reducible first | assumption | exact Ext.refl _ | refine Ext.drew ?_ | refine Ext.drewN ?_ _ | refine Ext.alloc ?_ _ | refine xS ?_ _ | refine xT ?_ (by assumption)))⟩

end Go.Proofs.Ytommhgcgaclflaa
